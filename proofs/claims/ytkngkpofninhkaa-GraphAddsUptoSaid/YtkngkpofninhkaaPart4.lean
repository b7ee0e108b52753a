/- A part of the proof: no condition of its own. -/
import Derived.Test.YtkngkpofninhkaaPart3
namespace Go.Proofs
open Go Aw
set_option linter.unusedSimpArgs false
set_option linter.unusedVariables false
set_option maxRecDepth 100000
set_option maxHeartbeats 4000000

theorem c_docs_kind (gl : List (Nat × AV)) (o : Pob) (h : o.bulk ≤ 16777216 := by first | omega | exact u8_le _ | assumption | (simp; done) | (simp; omega)) : FnP Try.prog (gl) 75 [.agg o.cells] fun r => r = .ret (.str (docKind o)) := by
  refine FnP.intro Try.func75 rfl rfl (by simp [Try.ntmps75]) ?_
  simp only [argEnv, Try.ntmps75, Try.results75]
  refine AW.rS ?_
  refine AW.rSC ?_
  refine awOps.cons (awGuard.c1 (c_value_Get ..) ?_)
  refine awOps.rn ?_
  refine AW.seq ?_
  refine AW.rS ?_
  refine AW.c2 ?_ ?_
  · intro h7
    refine AW.rS ?_
    refine AW.rt ?_
    simp_all [docKind, typeK]
  · intro h7
    refine AW.skip ?_
    refine AW.rS ?_
    refine AW.rt ?_
    simp_all [docKind, typeK]
theorem c_docs_holds (gl : List (Nat × AV)) (o : Pob) (h : o.bulk ≤ 16777216 := by first | omega | exact u8_le _ | assumption | (simp; done) | (simp; omega)) : FnP Try.prog (gl) 56 [.agg o.cells] fun r => r = .ret (.bool (holdsB o)) := by
  refine FnP.intro Try.func56 rfl rfl (by simp [Try.ntmps56]) ?_
  simp only [argEnv, Try.ntmps56, Try.results56]
  refine AW.rS ?_
  refine AW.rSC ?_
  refine awOps.cons (awGuard.cG (fun hg => c_docs_kind ..) ?_)
  refine awOps.rn ?_
  refine awOps.cons (awGuard.cG (fun hg => c_docs_kind ..) ?_)
  refine awOps.rn ?_
  refine AW.rt ?_
  simp_all [holdsB]
theorem c_docs_content (gl : List (Nat × AV)) (i : Itm) (h : i.obj.bulk ≤ 16777216 := by first | omega | exact u8_le _ | assumption | (simp; done) | (simp; omega)) : FnP Try.prog (gl) 36 [.agg i.cells] fun r => r = .ret (.int .i64 (contentE i)) := by
  refine FnP.intro Try.func36 rfl rfl (by simp [Try.ntmps36]) ?_
  simp only [argEnv, Try.ntmps36, Try.results36]
  refine AW.rS ?_
  refine AW.seq ?_
  refine AW.rSC ?_
  refine awOps.cons (awGuard.c1 (c_value_Check _ i.obj) ?_)
  refine awOps.rn ?_
  refine AW.rS ?_
  refine AW.c2 ?_ ?_
  · intro h7
    refine AW.rS ?_
    refine AW.rt ?_
    · rw [content_bad h7]
    all_goals first | contradiction | rfl | (simp; done) | (simp; omega)
  · intro h7
    refine AW.skip ?_
    refine AW.seq ?_
    refine AW.rSC ?_
    refine awOps.cons (awGuard.cG (fun hg => c_docs_holds _ i.obj) ?_)
    refine awOps.rn ?_
    refine AW.c2 ?_ ?_
    · intro h16
      refine AW.rS ?_
      refine AW.rt ?_
      simp only [contentE]; simp_all
    · intro h16
      refine AW.skip ?_
      refine AW.rS ?_
      refine AW.rt ?_
      simp only [contentE]; simp_all
theorem c_docs_alone (gl : List (Nat × AV)) (i : Itm) (h : i.obj.bulk ≤ 16777216 := by first | omega | exact u8_le _ | assumption | (simp; done) | (simp; omega)) : FnP Try.prog (gl) 54 [.agg i.cells] fun r => r = .ret (.int .i64 (aloneE i)) := by
  refine FnP.intro Try.func54 rfl rfl (by simp [Try.ntmps54]) ?_
  simp only [argEnv, Try.ntmps54, Try.results54]
  refine AW.rS ?_
  refine AW.seq ?_
  refine AW.rSC ?_
  refine awOps.cons (awGuard.c1 (c_docs_numbers _ i) ?_)
  refine awOps.rn ?_
  refine AW.c2 ?_ ?_
  · intro h6
    refine AW.rS ?_
    refine AW.rt ?_
    rw [aloneE, if_pos (nums_no h6)]
  · intro h6
    refine AW.skip ?_
    refine AW.rSC ?_
    refine awOps.cons (awGuard.c1 (c_docs_content _ i) ?_)
    refine awOps.rn ?_
    refine AW.rt ?_
    rw [aloneE, if_neg (by rw [nums_yes h6]; simp)]
theorem c_docs_items (gl : List (Nat × AV)) (l : List Itm) (h : ibulk l ≤ 16777216) : FnP Try.prog (gl) 21 [.sl (itemsAV l)] fun r => r = .ret (.int .i64 (itemsE l)) := by
  refine FnP.intro Try.func21 rfl rfl (by simp [Try.ntmps21]) ?_
  simp only [argEnv, Try.ntmps21, Try.results21]
  have hlen := ibulk_len l
  refine AW.rS ?_
  refine AW.seq ?_
  refine AW.rS ?_
  refine AW.block ?_
  refine AW.lk (S := { k : Nat // k ≤ l.length ∧ itemsE l = itemsFrom l k (l.length - k) }) [0, 6, 7] (fun s_ => [(8, .int .i64 s_.1)]) (fun s_ => []) 0 (fun s_ => l.length - s_.1) ⟨0, Nat.zero_le _, rfl⟩ ?_ ?_
  · refine St.le.vw []
  rintro ⟨k, hk, hs⟩
  try dsimp only at hk
  try dsimp only at hs
  refine AW.rS ?_
  refine AW.seq ?_
  refine AW.c2 ?_ ?_
  · intro h8
    have hgb := ibulk_get (l := l) (i := k) (by omega)
    refine AW.skip ?_
    refine AW.seq ?_
    refine AW.block ?_
    refine AW.rS ?_
    refine AW.seq ?_
    refine AW.block ?_
    refine AW.rSC ?_
    refine awOps.cons (awGuard.c1 (c_docs_numbers _ (l.getD k Itm.zero)) ?_)
    refine awOps.rn ?_
    refine AW.c2 ?_ ?_
    · intro h18
      refine AW.rS ?_
      refine AW.rt ?_
      rw [hs, itemsFrom_step h8, if_pos (nums_no h18)]
    · intro h18
      refine AW.dS [(0, 0), (1, 0), (2, 0), (3, 0), (4, 1), (5, 0), (6, 0), (7, 0), (8, 1), (9, 0), (10, 1), (11, 0), (12, 0), (13, 0)] ?_
      refine AW.c2 ?_ ?_
      · intro h23
        refine AW.rS ?_
        refine AW.rt ?_
        rw [hs, itemsFrom_step h8, if_neg (by rw [nums_yes h18]; simp), if_pos (by omega)]
      · intro h23
        refine AW.skip ?_
        refine AW.rSC ?_
        refine awOps.cons (awGuard.c1 (c_docs_content _ (l.getD k Itm.zero)) ?_)
        refine awOps.rn ?_
        refine AW.rS ?_
        refine AW.c2 ?_ ?_
        · intro h32
          refine AW.rS ?_
          refine AW.rt ?_
          rw [hs, itemsFrom_step h8, if_neg (by rw [nums_yes h18]; simp), if_neg (by omega), if_pos h32]
        · intro h32
          refine AW.skip ?_
          refine AW.rL ?_
          refine ⟨⟨k + 1, by omega, by rw [hs, itemsFrom_step (by omega), if_neg (by rw [nums_yes h18]; simp), if_neg (by omega), if_neg (by simpa using h32)]⟩, ?_, ?_⟩
          · refine St.le.vw []
          · simp only []; omega
  · intro h8
    refine AW.exit ?_
    refine AW.rS ?_
    refine AW.rt ?_
    rw [hs, show l.length - k = 0 from by omega, itemsFrom]
end Go.Proofs

namespace Go.Proofs
open Go Aw
set_option linter.unusedSimpArgs false
set_option linter.unusedVariables false
set_option maxRecDepth 100000
set_option maxHeartbeats 4000000

theorem c_docs_Follow_1 (gl : List (Nat × AV)) (i : Itm) (o : Pob) : FnP Try.prog (gl) 60 [.agg i.cells, .tptr o.cells] fun r => r = .ret (.bool (decide (i.num = o.num))) := by
  refine FnP.intro Try.func60 rfl rfl (by simp [Try.ntmps60]) ?_
  simp only [argEnv, Try.ntmps60, Try.results60]
  refine AW.rS ?_
  refine AW.rS ?_
  refine AW.rt ?_
  all_goals first | contradiction | rfl | (simp; done) | (simp; omega)
theorem c_IndexFunc_Follow (gl : List (Nat × AV)) (l : List Itm) (o : Pob) (hl : l.length ≤ 16777216 := by first | omega | exact u8_le _ | assumption | (simp; done) | (simp; omega)) : FnP Try.prog (gl) 59 [.sl (itemsAV l), .clos 60 [.tptr o.cells]] fun r => r = .ret (.int .i64 (iidxI l o.num)) := by
  refine FnP.intro Try.func59 rfl rfl (by simp [Try.ntmps59]) ?_
  simp only [argEnv, Try.ntmps59, Try.results59]
  refine AW.rS ?_
  refine AW.seq ?_
  refine AW.rS ?_
  refine AW.block ?_
  refine AW.lk (S := { i : Nat // i ≤ l.length ∧ ∀ j, j < i → (l.getD j Itm.zero).num ≠ o.num }) [0, 1, 7] (fun s_ => [(8, .int .i64 s_.1)]) (fun s_ => []) 0 (fun s_ => l.length - s_.1) ⟨0, Nat.zero_le _, fun j h => absurd h (by omega)⟩ ?_ ?_
  · refine St.le.vw []
  rintro ⟨i, hi, hs⟩
  try dsimp only at hi
  try dsimp only at hs
  refine AW.rS ?_
  refine AW.seq ?_
  refine AW.c2 ?_ ?_
  · intro h8
    refine AW.skip ?_
    refine AW.seq ?_
    refine AW.block ?_
    refine AW.rS ?_
    refine AW.rSC ?_
    refine awOps.cons (awGuard.c1 (c_docs_Follow_1 _ (l.getD i Itm.zero) o) ?_)
    refine awOps.rn ?_
    refine AW.c2 ?_ ?_
    · intro h16
      refine AW.rS ?_
      refine AW.rt ?_
      rw [iidx_hit h8 hs h16]
    · intro h16
      refine AW.skip ?_
      refine AW.rL ?_
      refine ⟨⟨i + 1, by omega, fun j hj => (Nat.lt_or_ge j i).elim (hs j) (fun h => (show j = i by omega) ▸ h16)⟩, ?_, ?_⟩
      · refine St.le.vw []
      · simp only []; omega
  · intro h8
    refine AW.exit ?_
    refine AW.rS ?_
    refine AW.rt ?_
    rw [iidx_miss (fun j hj => hs j (by omega))]
theorem c_docs_Follow (gl : List (Nat × AV)) (d : Dc) (o : Pob) (h : d.bulk ≤ 16777216 := by first | omega | exact u8_le _ | assumption | (simp; done) | (simp; omega)) (ho : o.bulk ≤ 16777216 := by first | omega | exact u8_le _ | assumption | (simp; done) | (simp; omega)) : FnP Try.prog (gl) 40 [.agg d.cells, .agg o.cells] fun r => r = .ret (.agg (followO d o).cells) := by
  refine FnP.intro Try.func40 rfl rfl (by simp [Try.ntmps40]) ?_
  simp only [argEnv, Try.ntmps40, Try.results40]
  have hlen := ibulk_len d.items
  have hlt := iidxI_lt (l := d.items) (n := o.num)
  simp only [Dc.bulk] at h
  refine AW.rS ?_
  refine AW.seq ?_
  refine AW.rS ?_
  refine AW.c2 ?_ ?_
  · intro h4
    refine AW.rSC ?_
    refine awOps.cons (awGuard.c1 (c_value_Clone _ o ho) ?_)
    refine awOps.rn ?_
    refine AW.rt ?_
    rw [followO, if_pos h4]
  · intro h4
    refine AW.skip ?_
    refine AW.rSC ?_
    refine awOps.cons (awGuard.c1 (c_IndexFunc_Follow _ d.items o (by omega)) ?_)
    refine awOps.rn ?_
    refine AW.seq ?_
    by_cases hs15 : 0 ≤ iidxI d.items o.num
    · skip
      refine AW.dS [(0, 0), (1, 0), (2, 0), (3, 0), (4, 1), (5, 0), (6, 1), (7, 0), (8, 1), (9, 0), (10, 1), (11, 0), (12, 0)] ?_
      refine AW.c2 ?_ ?_
      · intro h16
        refine AW.rS ?_
        refine AW.rt ?_
        have hf : followO d o = Pob.null := by simp only [followO]; grind
        rw [hf]; rfl
      · intro h16
        refine AW.skip ?_
        refine AW.rSC ?_
        refine awOps.cons (awGuard.c1 (c_value_Clone _ (d.items.getD (iidxI d.items o.num).toNat Itm.zero).obj (by have := ibulk_get (l := d.items) (i := (iidxI d.items o.num).toNat) (by omega); omega)) ?_)
        refine awOps.rn ?_
        refine AW.rt ?_
        have hf : followO d o = (d.items.getD (iidxI d.items o.num).toNat Itm.zero).obj := by simp only [followO]; grind
        rw [hf]
    · skip
      by_cases hs15 : 0 < d.items.length
      · skip
        refine AW.dS [(0, 0), (1, 0), (2, 0), (3, 0), (4, 1), (5, 0), (6, 1), (7, 0), (8, 1), (9, 0), (10, 1), (11, 0), (12, 0)] ?_
        refine AW.c2 ?_ ?_
        · intro h16
          refine AW.rS ?_
          refine AW.rt ?_
          have hf : followO d o = Pob.null := by simp only [followO]; grind
          rw [hf]; rfl
        · intro h16
          exfalso; first | omega | (simp at h16; omega)
      · skip
        refine AW.dS [(0, 0), (1, 0), (2, 0), (3, 0), (4, 1), (5, 0), (6, 1), (7, 0), (8, 1), (9, 0), (10, 1), (11, 0), (12, 0)] ?_
        refine AW.c2 ?_ ?_
        · intro h16
          refine AW.rS ?_
          refine AW.rt ?_
          have hf : followO d o = Pob.null := by simp only [followO]; grind
          rw [hf]; rfl
        · intro h16
          exfalso; first | omega | (simp at h16; omega)
end Go.Proofs

namespace Go.Proofs
open Go Aw
set_option linter.unusedSimpArgs false
set_option linter.unusedVariables false
set_option maxRecDepth 100000
set_option maxHeartbeats 4000000

theorem c_cmp_isNaN_int (gl : List (Nat × AV)) (n : Int) : FnP Try.prog (gl) 83 [.int .i64 n] fun r => r = .ret (.bool false) := by
  refine FnP.intro Try.func83 rfl rfl (by simp [Try.ntmps83]) ?_
  simp only [argEnv, Try.ntmps83, Try.results83]
  refine AW.rS ?_
  refine AW.rS ?_
  refine AW.rt ?_
  all_goals first | contradiction | rfl | (simp; done) | (simp; omega)
theorem c_cmp_Compare_int (gl : List (Nat × AV)) (x y : Int) : FnP Try.prog (gl) 73 [.int .i64 x, .int .i64 y] fun r => r = .ret (.int .i64 (cmpI x y)) := by
  refine FnP.intro Try.func73 rfl rfl (by simp [Try.ntmps73]) ?_
  simp only [argEnv, Try.ntmps73, Try.results73]
  refine AW.rS ?_
  refine AW.rSC ?_
  refine awOps.cons (awGuard.c1 (c_cmp_isNaN_int _ x) ?_)
  refine awOps.rn ?_
  refine AW.rSC ?_
  refine awOps.cons (awGuard.c1 (c_cmp_isNaN_int _ y) ?_)
  refine awOps.rn ?_
  refine AW.seq ?_
  refine AW.rS ?_
  refine AW.c2 ?_ ?_
  · intro h10
    refine AW.seq ?_
    refine AW.rS ?_
    refine AW.c2 ?_ ?_
    · intro h13
      refine AW.rS ?_
      refine AW.rt ?_
      all_goals first | contradiction | rfl | (simp; done) | (simp; omega)
    · intro h13
      refine AW.skip ?_
      refine AW.rS ?_
      refine AW.rt ?_
      all_goals first | contradiction | rfl | (simp; done) | (simp; omega)
  · intro h10
    refine AW.skip ?_
    refine AW.seq ?_
    refine AW.rS ?_
    refine AW.c2 ?_ ?_
    · intro h24
      refine AW.rS ?_
      refine AW.rt ?_
      all_goals first | contradiction | rfl | (simp; done) | (simp; omega)
    · intro h24
      refine AW.skip ?_
      refine AW.seq ?_
      refine AW.rS ?_
      refine AW.c2 ?_ ?_
      · intro h31
        refine AW.rS ?_
        refine AW.rt ?_
        rw [cmpI, if_pos h31]
      · intro h31
        refine AW.skip ?_
        refine AW.seq ?_
        refine AW.rS ?_
        refine AW.c2 ?_ ?_
        · intro h38
          refine AW.rS ?_
          refine AW.rt ?_
          rw [cmpI, if_neg (by omega), if_pos h38]
        · intro h38
          refine AW.skip ?_
          refine AW.rS ?_
          refine AW.rt ?_
          rw [cmpI, if_neg (by omega), if_neg (by omega)]
theorem c_docs_byNum (gl : List (Nat × AV)) (i : Itm) (n : Int) : FnP Try.prog (gl) 52 [.agg i.cells, .int .i64 n] fun r => r = .ret (.int .i64 (cmpI i.num n)) := by
  refine FnP.intro Try.func52 rfl rfl (by simp [Try.ntmps52]) ?_
  simp only [argEnv, Try.ntmps52, Try.results52]
  refine AW.rS ?_
  refine AW.rSC ?_
  refine awOps.cons (awGuard.c1 (c_cmp_Compare_int _ i.num n) ?_)
  refine awOps.rn ?_
  refine AW.rt ?_
  all_goals first | contradiction | rfl | (simp; done) | (simp; omega)
theorem cmpI_neg {x y : Int} : (cmpI x y < 0) = (x < y) := by
  unfold cmpI
  by_cases h : x < y
  · simp [h]
  · by_cases h' : y < x <;> simp [h, h']
theorem cmpI_zero {x y : Int} : (cmpI x y = 0) = (x = y) := by
  unfold cmpI
  by_cases h : x < y
  · simp [h]; omega
  · by_cases h' : y < x
    · simp [h, h']; omega
    · simp [h, h']; omega
theorem c_BinSearch_Item (gl : List (Nat × AV)) (l : List Itm) (n : Int) (hl : l.length ≤ 16777216 := by first | omega | exact u8_le _ | assumption | (simp; done) | (simp; omega)) (hs : incrN l := by first | omega | exact u8_le _ | assumption | (simp; done) | (simp; omega)) : FnP Try.prog (gl) 51 [.sl (itemsAV l), .int .i64 n, .clos 52 []] fun r => r = .ret (.tup [.int .i64 (iplace l n), .bool (ithere l n)]) := by
  refine FnP.intro Try.func51 rfl rfl (by simp [Try.ntmps51]) ?_
  simp only [argEnv, Try.ntmps51, Try.results51]
  refine AW.rS ?_
  refine AW.rS ?_
  refine AW.rS ?_
  refine AW.seq ?_
  refine AW.block ?_
  refine AW.lk (S := { p : Nat × Nat // p.1 ≤ p.2 ∧ p.2 ≤ l.length ∧ (∀ a, a < p.1 → (l.getD a Itm.zero).num < n) ∧ (∀ a, p.2 ≤ a → a < l.length → n ≤ (l.getD a Itm.zero).num) }) [0, 1, 2, 8] (fun s_ => [(9, .int .i64 s_.1.1), (10, .int .i64 s_.1.2)]) (fun s_ => []) 0 (fun s_ => s_.1.2 - s_.1.1) ⟨(0, l.length), Nat.zero_le _, Nat.le_refl _, fun a h => absurd h (by omega), fun a h h' => absurd h' (by omega)⟩ ?_ ?_
  · refine St.le.vw []
  rintro ⟨⟨i, j⟩, h1, h2, h3, h4⟩
  try dsimp only at h1
  try dsimp only at h2
  try dsimp only at h3
  try dsimp only at h4
  refine AW.seq ?_
  refine AW.rS ?_
  refine AW.c2 ?_ ?_
  · intro h9
    refine AW.skip ?_
    refine AW.block ?_
    refine AW.rS ?_
    refine AW.rSC ?_
    refine awOps.cons (awGuard.c1 (c_docs_byNum _ (l.getD ((i + j) / 2) Itm.zero) n) ?_)
    refine awOps.rn ?_
    refine AW.c2 ?_ ?_
    · intro h16
      rw [cmpI_neg] at h16
      refine AW.rL ?_
      refine ⟨⟨((i + j) / 2 + 1, j), by dsimp only; omega, h2, fun a ha => ibs_lo hs h16 (by omega) (by dsimp only at ha; omega), h4⟩, ?_, ?_⟩
      · refine St.le.vw []
      · simp only []; omega
    · intro h16
      have h16' : n ≤ (l.getD ((i + j) / 2) Itm.zero).num := by have := @cmpI_neg (l.getD ((i + j) / 2) Itm.zero).num n; by_cases hh : (l.getD ((i + j) / 2) Itm.zero).num < n; rw [← this] at hh; omega; omega
      refine AW.rL ?_
      refine ⟨⟨(i, (i + j) / 2), by dsimp only; omega, by dsimp only; omega, h3, fun a ha hb => ibs_hi hs h16' (by dsimp only at ha; omega) hb⟩, ?_, ?_⟩
      · refine St.le.vw []
      · simp only []; omega
  · intro h9
    refine AW.exit ?_
    obtain rfl : i = j := by omega
    have hkp := iplace_eq h2 h3 (fun h => h4 _ (Nat.le_refl _) h)
    by_cases hs22 : i < l.length
    · skip
      refine AW.rSC ?_
      refine awOps.cons (awGuard.cG (fun hg => c_docs_byNum _ (l.getD i Itm.zero) n) ?_)
      refine awOps.rn ?_
      refine AW.rt ?_
      rw [ithere_eq hkp, hkp]
      simp [hs22, cmpI_zero]
    · skip
      refine AW.rSC ?_
      refine awOps.cons (awGuard.gF (.int .i64 0) ?_ ?_)
      · simp [hs22]
      refine awOps.rn ?_
      refine AW.rt ?_
      rw [ithere_eq hkp, hkp]
      simp [hs22, cmpI_zero]
theorem h_BinSearch_Item (gl : List (Nat × AV)) (l : List Itm) (q : Int) (hl : l.length ≤ 16777216 := by first | omega | exact u8_le _ | assumption | (simp; done) | (simp; omega)) (hs : incrN l := by first | omega | exact u8_le _ | assumption | (simp; done) | (simp; omega)) : FnH Try.prog (gl) 51 [.row 0 0 l.length, .int .i64 q, .clos 52 []] ([(0, .row 8 (itemsAV l) true)]) 1 (fun r h n => r = .ret (.tup [.int .i64 (iplace l q), .bool (ithere l q)]) ∧ h = [(0, .row 8 (itemsAV l) true)] ∧ n = 1) := by
  refine FnH.intro Try.func51 rfl rfl (by simp [Try.ntmps51]) ?_
  simp only [argEnv, Try.ntmps51, Try.results51]
  refine AW.rS ?_
  refine AW.rS ?_
  refine AW.rS ?_
  refine AW.seq ?_
  refine AW.block ?_
  refine AW.lk (S := { p : Nat × Nat // p.1 ≤ p.2 ∧ p.2 ≤ l.length ∧ (∀ a, a < p.1 → (l.getD a Itm.zero).num < q) ∧ (∀ a, p.2 ≤ a → a < l.length → q ≤ (l.getD a Itm.zero).num) }) [0, 1, 2, 8] (fun s_ => [(9, .int .i64 s_.1.1), (10, .int .i64 s_.1.2)]) (fun s_ => [(0, .row 8 (itemsAV l) true)]) 1 (fun s_ => s_.1.2 - s_.1.1) ⟨(0, l.length), Nat.zero_le _, Nat.le_refl _, fun a h => absurd h (by omega), fun a h h' => absurd h' (by omega)⟩ ?_ ?_
  · refine St.le.vw [0]
  rintro ⟨⟨i, j⟩, h1, h2, h3, h4⟩
  try dsimp only at h1
  try dsimp only at h2
  try dsimp only at h3
  try dsimp only at h4
  refine AW.seq ?_
  refine AW.rS ?_
  refine AW.c2 ?_ ?_
  · intro h9
    refine AW.skip ?_
    refine AW.block ?_
    refine AW.rS ?_
    refine AW.rSC ?_
    refine awOps.cons (awGuard.c1 (c_docs_byNum _ (l.getD ((i + j) / 2) Itm.zero) q) ?_)
    refine awOps.rn ?_
    refine AW.c2 ?_ ?_
    · intro h16
      rw [cmpI_neg] at h16
      refine AW.rL ?_
      refine ⟨⟨((i + j) / 2 + 1, j), by dsimp only; omega, h2, fun a ha => ibs_lo hs h16 (by omega) (by dsimp only at ha; omega), h4⟩, ?_, ?_⟩
      · refine St.le.vw [0]
      · simp only []; omega
    · intro h16
      have h16' : q ≤ (l.getD ((i + j) / 2) Itm.zero).num := by have := @cmpI_neg (l.getD ((i + j) / 2) Itm.zero).num q; by_cases hh : (l.getD ((i + j) / 2) Itm.zero).num < q; rw [← this] at hh; omega; omega
      refine AW.rL ?_
      refine ⟨⟨(i, (i + j) / 2), by dsimp only; omega, by dsimp only; omega, h3, fun a ha hb => ibs_hi hs h16' (by dsimp only at ha; omega) hb⟩, ?_, ?_⟩
      · refine St.le.vw [0]
      · simp only []; omega
  · intro h9
    refine AW.exit ?_
    obtain rfl : i = j := by omega
    have hkp := iplace_eq h2 h3 (fun h => h4 _ (Nat.le_refl _) h)
    by_cases hs22 : i < l.length
    · skip
      refine AW.rSC ?_
      refine awOps.cons (awGuard.cG (fun hg => c_docs_byNum _ (l.getD i Itm.zero) q) ?_)
      refine awOps.rn ?_
      refine AW.rt ?_
      rw [ithere_eq hkp, hkp]
      simp [hs22, cmpI_zero]
    · skip
      refine AW.rSC ?_
      refine awOps.cons (awGuard.gF (.int .i64 0) ?_ ?_)
      · simp [hs22]
      refine awOps.rn ?_
      refine AW.rt ?_
      rw [ithere_eq hkp, hkp]
      simp [hs22, cmpI_zero]
end Go.Proofs

namespace Go.Proofs
open Go Aw
set_option linter.unusedSimpArgs false
set_option linter.unusedVariables false
set_option maxRecDepth 100000
set_option maxHeartbeats 4000000

theorem c_docs_known (gl : List (Nat × AV))  : FnP Try.prog (gl) 38 [] fun r => r = .ret (.sl (strsAV trailK)) := by
  refine FnP.intro Try.func38 rfl rfl (by simp [Try.ntmps38]) ?_
  simp only [argEnv, Try.ntmps38, Try.results38]
  refine AW.rS ?_
  refine AW.rS ?_
  refine AW.rt ?_
  all_goals first | contradiction | rfl | (simp; done) | (simp; omega)
theorem c_slices_Contains_string_string (gl : List (Nat × AV)) (ks : List (List UInt8)) (k : List UInt8) (h : ks.length ≤ 16777216 := by first | omega | exact u8_le _ | assumption | (simp; done) | (simp; omega)) : FnP Try.prog (gl) 37 [.sl (strsAV ks), .str k] fun r => r = .ret (.bool (decide (0 ≤ kidxI ks k))) := by
  refine FnP.intro Try.func37 rfl rfl (by simp [Try.ntmps37]) ?_
  simp only [argEnv, Try.ntmps37, Try.results37]
  refine AW.rS ?_
  refine AW.rSC ?_
  refine awOps.cons (awGuard.c1 (c_slices_Index_string_string _ ks k) ?_)
  refine awOps.rn ?_
  refine AW.rt ?_
  all_goals first | contradiction | rfl | (simp; done) | (simp; omega)
theorem c_docs_trail (gl : List (Nat × AV)) (d : Dc) (h : d.bulk ≤ 16777216 := by first | omega | exact u8_le _ | assumption | (simp; done) | (simp; omega)) : FnP Try.prog (gl) 22 [.agg d.cells] fun r => r = .ret (.int .i64 (trailE d)) := by
  refine FnP.intro Try.func22 rfl rfl (by simp [Try.ntmps22]) ?_
  simp only [argEnv, Try.ntmps22, Try.results22]
  have h0 := h
  simp only [Dc.bulk] at h
  have hkb := Pob.bulk_eq d.trailer
  have hrb := get_bulk d.trailer rootK
  refine AW.rS ?_
  refine AW.seq ?_
  refine AW.rSC ?_
  refine awOps.cons (awGuard.c1 (c_value_Check _ d.trailer) ?_)
  refine awOps.rn ?_
  refine AW.rS ?_
  refine AW.c2 ?_ ?_
  · intro h7
    refine AW.rS ?_
    refine AW.rt ?_
    rw [trail_bad h7]
  · intro h7
    refine AW.skip ?_
    refine AW.seq ?_
    refine AW.rS ?_
    refine AW.c2 ?_ ?_
    · intro h14
      refine AW.rS ?_
      refine AW.rt ?_
      rw [trail_kind h7 h14]
    · intro h14
      refine AW.skip ?_
      refine AW.seq ?_
      refine AW.rS ?_
      refine AW.block ?_
      refine AW.lk (S := { i : Nat // i ≤ d.trailer.keys.length ∧ ∀ j, j < i → 0 ≤ kidxI trailK (d.trailer.keys.getD j []) }) [1, 20, 21] (fun s_ => [(22, .int .i64 s_.1)]) (fun s_ => [(0, .cells d.cells)]) 1 (fun s_ => d.trailer.keys.length - s_.1) ⟨0, Nat.zero_le _, fun j h => absurd h (by omega)⟩ ?_ ?_
      · refine St.le.vw [0]
      rintro ⟨i, hi, hs⟩
      try dsimp only at hi
      try dsimp only at hs
      refine AW.rS ?_
      refine AW.seq ?_
      refine AW.c2 ?_ ?_
      · intro h25
        refine AW.skip ?_
        refine AW.seq ?_
        refine AW.block ?_
        refine AW.rS ?_
        refine AW.rSC ?_
        refine awOps.cons (awGuard.c1 (c_docs_known ..) ?_)
        refine awOps.rn ?_
        refine awOps.cons (awGuard.c1 (c_slices_Contains_string_string _ trailK (d.trailer.keys.getD i []) (by decide)) ?_)
        refine awOps.rn ?_
        refine AW.c2 ?_ ?_
        · intro h35
          refine AW.rS ?_
          refine AW.rt ?_
          rw [trail_key h7 h14 (fun hh => by have := hh i h25; omega)]
        · intro h35
          refine AW.skip ?_
          refine AW.rL ?_
          refine ⟨⟨i + 1, by omega, fun j hj => (Nat.lt_or_ge j i).elim (hs j) (fun h => (show j = i by omega) ▸ h35)⟩, ?_, ?_⟩
          · refine St.le.vw [0]
          · simp only []; omega
      · intro h25
        refine AW.exit ?_
        have htk : trailOk d.trailer.keys := fun j hj => hs j (by omega)
        refine AW.rSC ?_
        refine awOps.cons (awGuard.c1 (c_value_Get _ d.trailer rootK) ?_)
        refine awOps.rn ?_
        refine AW.seq ?_
        refine AW.rSC ?_
        refine awOps.cons (awGuard.cG (fun hg => c_docs_Follow _ d (getO d.trailer rootK) h0 (by omega)) ?_)
        refine awOps.rn ?_
        refine AW.c2 ?_ ?_
        · intro h50
          refine AW.rS ?_
          refine AW.rt ?_
          rw [trail_root h7 h14 htk, if_pos h50]
        · intro h50
          refine AW.skip ?_
          refine AW.rS ?_
          refine AW.rt ?_
          rw [trail_root h7 h14 htk, if_neg (by simp [h50])]
theorem c_docs_Check (gl : List (Nat × AV)) (d : Dc) (h : d.bulk ≤ 16777216 := by first | omega | exact u8_le _ | assumption | (simp; done) | (simp; omega)) : FnP Try.prog (gl) 8 [.agg d.cells] fun r => r = .ret (.int .i64 (docE d)) := by
  refine FnP.intro Try.func8 rfl rfl (by simp [Try.ntmps8]) ?_
  simp only [argEnv, Try.ntmps8, Try.results8]
  refine AW.rS ?_
  refine AW.seq ?_
  refine AW.rSC ?_
  refine awOps.cons (awGuard.c1 (c_docs_items _ d.items (by simp only [Dc.bulk] at h; omega)) ?_)
  refine awOps.rn ?_
  refine AW.rS ?_
  refine AW.c2 ?_ ?_
  · intro h7
    refine AW.rS ?_
    refine AW.rt ?_
    rw [doc_bad h7]
  · intro h7
    refine AW.skip ?_
    refine AW.rSC ?_
    refine awOps.cons (awGuard.c1 (c_docs_trail _ d h) ?_)
    refine awOps.rn ?_
    refine AW.rt ?_
    rw [doc_trail h7]
end Go.Proofs

namespace Go.Proofs
open Go Aw
set_option linter.unusedSimpArgs false
set_option linter.unusedVariables false
set_option maxRecDepth 100000
set_option maxHeartbeats 1000000

theorem h_docs_fresh (gl : List (Nat × AV)) (d : Dc) (h : d.bulk ≤ 16777216 := by first | omega | exact u8_le _ | assumption | (simp; done) | (simp; omega)) : FnH Try.prog (gl) 30 [.agg d.cells] ([]) 0 (fun r h n => r = .ret (.agg [.row 1 0 d.items.length, .int .i64 d.trailer.kind, .int .i64 d.trailer.num, .int .i64 d.trailer.gen, .str d.trailer.str, .sl (strsAV d.trailer.keys), .sl (objsAV d.trailer.kids)]) ∧ h = [(0, .cells [.row 1 0 d.items.length, .int .i64 d.trailer.kind, .int .i64 d.trailer.num, .int .i64 d.trailer.gen, .str d.trailer.str, .sl (strsAV d.trailer.keys), .sl (objsAV d.trailer.kids)]), (1, .row 8 (itemsAV d.items) true)] ∧ n = 2) := by
  refine FnH.intro Try.func30 rfl rfl (by simp [Try.ntmps30]) ?_
  simp only [argEnv, Try.ntmps30, Try.results30]
  simp only [Dc.bulk] at h
  have hlen := ibulk_len d.items
  refine AW.rS ?_
  refine AW.rSC ?_
  refine awOps.cons (awGuard.c1 (c_value_Clone _ d.trailer) ?_)
  refine awOps.rn ?_
  refine AW.seq ?_
  refine AW.rS ?_
  refine AW.block ?_
  refine AW.pre (St.le.nilcell 2 0 8 (by (simp only [go_sem, seval]; try (simp (disch := omega) only [zq]; try (simp only [go_sem, seval]; try (simp (disch := omega) only [zq]; try simp only [go_sem, seval])))); exact rfl) (by exact rfl)) ?_
  refine wk ?_
  refine AW.lk (S := { i : Nat // i ≤ d.items.length }) [2, 3, 11, 12] (fun s_ => [(13, .int .i64 s_.1)]) (fun s_ => [(0, .cells d.cells), (1, .cells [.raw (.slice none 0 0), .int .i64 0, .int .i64 0, .int .i64 0, .str [], .raw (.slice none 0 0), .raw (.slice none 0 0)]), (2, .cells [.row 3 0 s_.1, .int .i64 d.trailer.kind, .int .i64 d.trailer.num, .int .i64 d.trailer.gen, .str d.trailer.str, .sl (strsAV d.trailer.keys), .sl (objsAV d.trailer.kids)]), (3, .row 8 (itemsAV (d.items.take s_.1)) true)]) 4 (fun s_ => d.items.length - s_.1) ⟨0, Nat.zero_le _⟩ ?_ ?_
  · refine St.le.vw [0, 1, 2, 3]
  rintro ⟨i, hi⟩
  try dsimp only at hi
  refine AW.rS ?_
  refine AW.seq ?_
  refine AW.c2 ?_ ?_
  · intro h11
    have hgb := ibulk_get (l := d.items) (i := i) (by omega)
    refine AW.skip ?_
    refine AW.seq ?_
    refine AW.block ?_
    refine AW.rS ?_
    refine AW.fL [0, 1, 2, 3, 4] [(5, 2), (6, 2), (7, 2)] ?_
    refine awFun.rn ?_
    refine awFun.c1 [19] (c_docs_copied _ (d.items.getD i Itm.zero)) ?_
    refine awFun.rn ?_
    refine awFun.bs [20] ?_
    refine awFun.rn ?_
    rw [Aw.awFun_nil]
    refine awPlan.rn ?_
    refine AW.rL ?_
    refine ⟨⟨i + 1, by omega⟩, ?_, ?_⟩
    · refine St.le.vx [0, 1, 2, 5] ?_
      have hsn := itemsAV_snoc' d.items i h11; rw [List.take_of_length_le (by rw [itemsAV_length, List.length_take]; omega), hsn]
    · simp only []; omega
  · intro h11
    refine AW.exit ?_
    obtain rfl : i = d.items.length := by omega
    rw [List.take_length]
    refine AW.rS ?_
    refine AW.vw [1, 3] [(2, .ptr 0 0)] [(0, .cells [.row 1 0 d.items.length, .int .i64 d.trailer.kind, .int .i64 d.trailer.num, .int .i64 d.trailer.gen, .str d.trailer.str, .sl (strsAV d.trailer.keys), .sl (objsAV d.trailer.kids)]), (1, .row 8 (itemsAV d.items) true)] ?_
    refine AW.rt ?_
    all_goals first | contradiction | rfl | (simp; done) | (simp; omega)
theorem h_docs_lay (gl : List (Nat × AV)) (l : List Itm) (i : Itm) (hl : l.length ≤ 16777216 := by first | omega | exact u8_le _ | assumption | (simp; done) | (simp; omega)) (hb : i.obj.bulk ≤ 16777216 := by first | omega | exact u8_le _ | assumption | (simp; done) | (simp; omega)) (hs : incrN l := by first | omega | exact u8_le _ | assumption | (simp; done) | (simp; omega)) : FnH Try.prog (gl) 55 [.row 0 0 l.length, .agg i.cells] ([(0, .row 8 (itemsAV l) true)]) 1 (fun r h n => r = .ret (.row 1 0 (layI l i).length) ∧ h = [(1, .row 8 (itemsAV (layI l i)) true)] ∧ n = 2) := by
  refine FnH.intro Try.func55 rfl rfl (by simp [Try.ntmps55]) ?_
  simp only [argEnv, Try.ntmps55, Try.results55]
  refine AW.rS ?_
  refine AW.rSC ?_
  refine awOps.cons (awGuard.cH [0] (h_BinSearch_Item _ l i.num) ?_)
  refine awOps.rn ?_
  refine AW.seq ?_
  refine AW.rS ?_
  refine AW.c2 ?_ ?_
  · intro h7
    have hlt := ithere_lt h7
    have hset : layI l i = l.set (iplace l i.num) i := by rw [layI, if_pos h7]
    refine AW.rSC ?_
    refine awOps.cons (awGuard.c1 (c_docs_copied _ i) ?_)
    refine awOps.rn ?_
    refine AW.rS ?_
    rw [hset]
    refine AW.rnm 4 ?_
    refine wk ?_
    refine AW.vw [0, 2] [(4, .row 1 0 l.length)] [(1, .row 8 ((itemsAV l).set (iplace l i.num) i.cells) true)] ?_
    refine AW.rt ?_
    rw [itemsAV_set', List.length_set]
    exact ⟨rfl, rfl⟩
  · intro h7
    refine AW.skip ?_
    refine AW.rSC ?_
    refine awOps.cons (awGuard.c1 (c_docs_copied _ i) ?_)
    refine awOps.rn ?_
    refine awOps.cons (awGuard.cH [0, 2] (h_Ins_itm _ l i (iplace l i.num) (iplace_le _ _)) ?_)
    refine awOps.rn ?_
    have hins : layI l i = insAt l (iplace l i.num) i := by rw [layI, if_neg (by simp [h7])]
    rw [hins]
    refine AW.vw [0, 3] [(4, .row 1 0 (l.length + 1))] [(1, .row 8 (itemsAV (insAt l (iplace l i.num) i)) true)] ?_
    refine AW.rt ?_
    all_goals simp [insAt_length]
theorem c_docs_told (gl : List (Nat × AV)) (d : Dc) (h : d.bulk ≤ 16777216 := by first | omega | exact u8_le _ | assumption | (simp; done) | (simp; omega)) : FnP Try.prog (gl) 32 [.agg d.cells] fun r => r = .ret (.tup [.agg (if docE d = 0 then d else Dc.zero).cells, .int .i64 (docE d)]) := by
  refine FnP.intro Try.func32 rfl rfl (by simp [Try.ntmps32]) ?_
  simp only [argEnv, Try.ntmps32, Try.results32]
  refine AW.rS ?_
  refine AW.seq ?_
  refine AW.rSC ?_
  refine awOps.cons (awGuard.c1 (c_docs_Check _ d) ?_)
  refine awOps.rn ?_
  refine AW.rS ?_
  refine AW.c2 ?_ ?_
  · intro h7
    refine AW.rS ?_
    refine AW.rt ?_
    rw [if_neg h7]; rfl
  · intro h7
    refine AW.skip ?_
    refine AW.rS ?_
    refine AW.rt ?_
    rw [if_pos h7, h7]
end Go.Proofs

namespace Go.Proofs
open Go Aw
set_option linter.unusedSimpArgs false
set_option linter.unusedVariables false
set_option maxRecDepth 100000
set_option maxHeartbeats 1000000

theorem c_docs_Put (gl : List (Nat × AV)) (d : Dc) (i : Itm) (h : d.bulk + i.obj.bulk ≤ 16777000 := by first | omega | exact u8_le _ | assumption | (simp; done) | (simp; omega)) : FnP Try.prog (gl) 34 [.agg d.cells, .agg i.cells] fun r => r = .ret (.tup [.agg (putO d i).cells, .int .i64 (putE d i)]) := by
  refine FnP.intro Try.func34 rfl rfl (by simp [Try.ntmps34]) ?_
  simp only [argEnv, Try.ntmps34, Try.results34]
  have hlen := ibulk_len d.items
  have hlb := layI_bulk d.items i
  have hdb : d.bulk = ibulk d.items + d.trailer.bulk := rfl
  refine AW.rS ?_
  refine AW.seq ?_
  refine AW.rSC ?_
  refine awOps.cons (awGuard.c1 (c_docs_Check _ d (by omega)) ?_)
  refine awOps.rn ?_
  refine AW.rS ?_
  refine AW.c2 ?_ ?_
  · intro h7
    refine AW.rS ?_
    refine AW.rt ?_
    rw [(put_doc h7).1, (put_doc h7).2]; rfl
  · intro h7
    refine AW.skip ?_
    refine AW.seq ?_
    refine AW.rSC ?_
    refine awOps.cons (awGuard.c1 (c_docs_alone _ i (by omega)) ?_)
    refine awOps.rn ?_
    refine AW.rS ?_
    refine AW.c2 ?_ ?_
    · intro h17
      refine AW.rS ?_
      refine AW.rt ?_
      rw [(put_alone h7 h17).1, (put_alone h7 h17).2]; rfl
    · intro h17
      refine AW.skip ?_
      have hs := doc_incr h7
      refine AW.rSC ?_
      refine awOps.cons (awGuard.cH [] (h_docs_fresh _ d (by omega)) ?_)
      refine awOps.rn ?_
      refine AW.rSC ?_
      refine awOps.cons (awGuard.cH [4] (h_docs_lay _ d.items i (by omega) (by omega) hs) ?_)
      refine awOps.rn ?_
      refine AW.rSC ?_
      refine awOps.cons (awGuard.c1 (c_docs_told _ ⟨layI d.items i, d.trailer⟩ (by simp only [Dc.bulk]; omega)) ?_)
      refine awOps.rn ?_
      refine AW.rt ?_
      rw [(put_ok h7 h17).1, (put_ok h7 h17).2]
theorem c_docs_Free (gl : List (Nat × AV)) (d : Dc) (h : d.bulk ≤ 16777000 := by first | omega | exact u8_le _ | assumption | (simp; done) | (simp; omega)) : FnP Try.prog (gl) 33 [.agg d.cells] fun r => r = .ret (.tup [.int .i64 (freeN d), .int .i64 (freeE d)]) := by
  refine FnP.intro Try.func33 rfl rfl (by simp [Try.ntmps33]) ?_
  simp only [argEnv, Try.ntmps33, Try.results33]
  have hlen := ibulk_len d.items
  have hdb : d.bulk = ibulk d.items + d.trailer.bulk := rfl
  refine AW.rS ?_
  refine AW.seq ?_
  refine AW.rSC ?_
  refine awOps.cons (awGuard.c1 (c_docs_Check _ d (by omega)) ?_)
  refine awOps.rn ?_
  refine AW.rS ?_
  refine AW.c2 ?_ ?_
  · intro h7
    refine AW.rS ?_
    refine AW.rt ?_
    rw [(free_doc h7).1, (free_doc h7).2]
  · intro h7
    refine AW.skip ?_
    refine AW.rS ?_
    refine AW.seq ?_
    refine AW.rS ?_
    refine AW.rS ?_
    refine AW.c2 ?_ ?_
    · intro h16
      have hnb := ((items_iff.1 (docE_items h7)).2 _ (getD_mem (l := d.items) (i := d.items.length - 1) (by omega))).1
      simp only [numsB, Bool.and_eq_true, decide_eq_true_eq] at hnb
      have hln : lastN d.items = (d.items.getD (d.items.length - 1) Itm.zero).num + 1 := by rw [lastN, if_neg (by omega)]
      refine AW.rL ?_
      refine AW.seq ?_
      refine AW.rS ?_
      refine AW.c2 ?_ ?_
      · intro h20
        refine AW.rS ?_
        refine AW.rt ?_
        rw [(free_full h7 (by omega)).1, (free_full h7 (by omega)).2]
      · intro h20
        refine AW.skip ?_
        refine AW.rS ?_
        refine AW.rt ?_
        rw [(free_ok h7 (by omega)).1, (free_ok h7 (by omega)).2, hln]
    · intro h16
      have hln : lastN d.items = 1 := by rw [lastN, if_pos (by omega)]
      refine AW.skip ?_
      refine AW.seq ?_
      refine AW.rS ?_
      refine AW.c2 ?_ ?_
      · intro h31
        simp at h31
      · intro h31
        refine AW.skip ?_
        refine AW.rS ?_
        refine AW.rt ?_
        rw [(free_ok h7 (by omega)).1, (free_ok h7 (by omega)).2, hln]
theorem c_docs_Add (gl : List (Nat × AV)) (d : Dc) (o : Pob) (h : d.bulk + o.bulk ≤ 16777000 := by first | omega | exact u8_le _ | assumption | (simp; done) | (simp; omega)) : FnP Try.prog (gl) 19 [.agg d.cells, .agg o.cells] fun r => r = .ret (.tup [.agg (addO d o).cells, .int .i64 (addN d o), .int .i64 (addE d o)]) := by
  refine FnP.intro Try.func19 rfl rfl (by simp [Try.ntmps19]) ?_
  simp only [argEnv, Try.ntmps19, Try.results19]
  refine AW.rS ?_
  refine AW.rSC ?_
  refine awOps.cons (awGuard.c1 (c_docs_Free _ d (by omega)) ?_)
  refine awOps.rn ?_
  refine AW.seq ?_
  refine AW.rS ?_
  refine AW.c2 ?_ ?_
  · intro h7
    refine AW.rS ?_
    refine AW.rt ?_
    rw [(add_free h7).1, (add_free h7).2.1, (add_free h7).2.2]; rfl
  · intro h7
    refine AW.skip ?_
    refine AW.rSC ?_
    refine awOps.cons (awGuard.c1 (c_docs_Put _ d ⟨freeN d, 0, o⟩ (by show d.bulk + o.bulk ≤ _; omega)) ?_)
    refine awOps.rn ?_
    refine AW.seq ?_
    refine AW.rS ?_
    refine AW.c2 ?_ ?_
    · intro h17
      refine AW.rS ?_
      refine AW.rt ?_
      rw [(add_put h7 h17).1, (add_put h7 h17).2.1, (add_put h7 h17).2.2]; rfl
    · intro h17
      refine AW.skip ?_
      refine AW.rS ?_
      refine AW.rt ?_
      rw [(add_ok h7 h17).1, (add_ok h7 h17).2.1, (add_ok h7 h17).2.2]
end Go.Proofs


namespace Aw
open Go
theorem Dc_eq (a b : Dc) : a = b ↔ a.items = b.items ∧ a.trailer = b.trailer := by cases a; cases b; simp
instance dcDec : DecidableEq Dc := fun a b => decidable_of_iff (a.items = b.items ∧ a.trailer = b.trailer) (Dc_eq a b).symm
end Aw

namespace Go.Proofs
open Go Aw
set_option linter.unusedSimpArgs false
set_option linter.unusedVariables false
set_option maxRecDepth 100000
set_option maxHeartbeats 1000000

end Go.Proofs

namespace Aw
open Go
end Aw
namespace Aw
open Go
end Aw

namespace Go.Proofs
open Go Aw
set_option linter.unusedSimpArgs false
set_option linter.unusedVariables false
set_option maxRecDepth 100000
set_option maxHeartbeats 1000000

theorem size_step (gl : List (Nat × AV)) (N : Nat) (hN : N ≤ 16777216) (ih : ∀ o' : Pob, o'.bulk < N → o'.psize ≤ 4611686018427387904 → FnP Try.prog gl 18 [.agg o'.cells] fun r => r = .ret (.int .i64 o'.psize)) (o : Pob) (ho : o.bulk ≤ N) (hp : o.psize ≤ 4611686018427387904) : FnP Try.prog (gl) 18 [.agg o.cells] fun r => r = .ret (.int .i64 o.psize) := by
  refine FnP.intro Try.func18 rfl rfl (by simp [Try.ntmps18]) ?_
  simp only [argEnv, Try.ntmps18, Try.results18]
  have hb := Pob.bulk_eq o
  have hpe := Pob.psize_eq o
  have hk0 := ksize_nil
  have hp0 := psizes_nil
  refine AW.rS ?_
  refine AW.rS ?_
  refine AW.seq ?_
  refine AW.rS ?_
  refine AW.block ?_
  refine AW.lk (S := { i : Nat // i ≤ o.keys.length }) [1, 14, 15] (fun s_ => [(3, .int .i64 ((1 + o.str.length / 50 + ksize (o.keys.take s_.1) : Nat) : Int)), (16, .int .i64 s_.1)]) (fun s_ => [(0, .cells o.cells)]) 1 (fun s_ => o.keys.length - s_.1) ⟨0, Nat.zero_le _⟩ ?_ ?_
  · refine St.le.vw [0]
  rintro ⟨i, hi⟩
  try dsimp only at hi
  refine AW.rS ?_
  refine AW.seq ?_
  refine AW.c2 ?_ ?_
  · intro h9
    have h1 := ksize_take h9
    have h2 := ksize_take_le o.keys (i + 1)
    refine AW.skip ?_
    refine AW.seq ?_
    refine AW.block ?_
    refine AW.rS ?_
    refine AW.rL ?_
    refine AW.rL ?_
    refine ⟨⟨i + 1, by omega⟩, ?_, ?_⟩
    · refine St.le.vw [0]
    · simp only []; omega
  · intro h9
    refine AW.exit ?_
    obtain rfl : i = o.keys.length := by omega
    rw [List.take_length]
    refine AW.seq ?_
    refine AW.rS ?_
    refine AW.block ?_
    refine AW.lk (S := { i : Nat // i ≤ o.kids.length }) [27, 28] (fun s_ => [(3, .int .i64 ((1 + o.str.length / 50 + ksize o.keys + psizes (o.kids.take s_.1) : Nat) : Int)), (29, .int .i64 s_.1)]) (fun s_ => [(0, .cells o.cells)]) 1 (fun s_ => o.kids.length - s_.1) ⟨0, Nat.zero_le _⟩ ?_ ?_
    · refine St.le.vw [0]
    rintro ⟨j, hj⟩
    try dsimp only at hj
    refine AW.rS ?_
    refine AW.seq ?_
    refine AW.c2 ?_ ?_
    · intro h24
      have h1 := psizes_take h24
      have h2 := psizes_take_le o.kids (j + 1)
      have h3 := psizes_get h24
      refine AW.skip ?_
      refine AW.seq ?_
      refine AW.block ?_
      refine AW.rS ?_
      refine AW.rLC ?_
      refine awOps.cons (awGuard.c1 (ih (o.kids.getD j Pob.null) (Nat.lt_of_lt_of_le (Pob.bulk_kid (by omega)) ho) (by omega)) ?_)
      refine awOps.rn ?_
      refine AW.rL ?_
      refine ⟨⟨j + 1, by omega⟩, ?_, ?_⟩
      · refine St.le.vw [0]
      · simp only []; omega
    · intro h24
      refine AW.exit ?_
      refine AW.rS ?_
      refine AW.rt ?_
      obtain rfl : j = o.kids.length := by omega
      rw [List.take_length, hpe]
theorem size_all (gl : List (Nat × AV)) (N : Nat) : N ≤ 16777216 → ∀ o : Pob, o.bulk ≤ N → o.psize ≤ 4611686018427387904 → FnP Try.prog gl 18 [.agg o.cells] fun r => r = .ret (.int .i64 o.psize) := by
  induction N using Nat.strongRecOn with
  | ind N IH => exact fun hN x hx hp => size_step gl N hN (fun x' h hp' => IH x'.bulk h (by omega) x' (Nat.le_refl _) hp') x hx hp
theorem c_foliantref05_Size (gl : List (Nat × AV)) (o : Pob) (h : o.bulk ≤ 16777216) (hp : o.psize ≤ 4611686018427387904) : FnP Try.prog gl 18 [.agg o.cells] fun r => r = .ret (.int .i64 o.psize) := size_all gl 16777216 (Nat.le_refl _) o h hp
end Go.Proofs

namespace Go.Proofs
open Go Aw
set_option linter.unusedSimpArgs false
set_option linter.unusedVariables false
set_option maxRecDepth 100000
set_option maxHeartbeats 1000000

theorem c_foliantref19_Size (gl : List (Nat × AV)) (d : Dc) (h : d.bulk ≤ 16777216) (hp : d.size ≤ 4611686018427387904) : FnP Try.prog (gl) 7 [.agg d.cells] fun r => r = .ret (.int .i64 d.size) := by
  refine FnP.intro Try.func7 rfl rfl (by simp [Try.ntmps7]) ?_
  simp only [argEnv, Try.ntmps7, Try.results7]
  have hlen := ibulk_len d.items
  have hdb : d.bulk = ibulk d.items + d.trailer.bulk := rfl
  have hds : d.size = d.trailer.psize + isize d.items := rfl
  have hk0 := isize_nil
  refine AW.rS ?_
  refine AW.rSC ?_
  refine awOps.cons (awGuard.c1 (c_foliantref05_Size _ d.trailer (by omega) (by omega)) ?_)
  refine awOps.rn ?_
  refine AW.seq ?_
  refine AW.rS ?_
  refine AW.block ?_
  refine AW.lk (S := { i : Nat // i ≤ d.items.length }) [10, 11] (fun s_ => [(3, .int .i64 ((d.trailer.psize + isize (d.items.take s_.1) : Nat) : Int)), (12, .int .i64 s_.1)]) (fun s_ => [(0, .cells d.cells)]) 1 (fun s_ => d.items.length - s_.1) ⟨0, Nat.zero_le _⟩ ?_ ?_
  · refine St.le.vw [0]
  rintro ⟨i, hi⟩
  try dsimp only at hi
  refine AW.rS ?_
  refine AW.seq ?_
  refine AW.c2 ?_ ?_
  · intro h11
    have h1 := isize_take h11
    have h2 := isize_take_le d.items (i + 1)
    have hgb := ibulk_get (l := d.items) (i := i) (by omega)
    refine AW.skip ?_
    refine AW.seq ?_
    refine AW.block ?_
    refine AW.rS ?_
    refine AW.rLC ?_
    refine awOps.cons (awGuard.c1 (c_foliantref05_Size _ (d.items.getD i Itm.zero).obj (by omega) (by omega)) ?_)
    refine awOps.rn ?_
    refine AW.rL ?_
    refine ⟨⟨i + 1, by omega⟩, ?_, ?_⟩
    · refine St.le.vw [0]
    · simp only []; omega
  · intro h11
    refine AW.exit ?_
    refine AW.rS ?_
    refine AW.rt ?_
    obtain rfl : i = d.items.length := by omega
    rw [List.take_length, hds]
end Go.Proofs

namespace Aw
open Go
abbrev KI : Int → AV := fun n => .int .i64 n
def VI (i : Itm) : AV := .agg i.cells
def netL (l : List Itm) : List (Int × Itm) := l.map fun i => (i.num, i)
/-- the item that a reference names, and whether it is there -/
def leadI (l : List Itm) (r : Pob) : Itm := (mfind (netL l) r.num).getD Itm.zero
def leadB (l : List Itm) (r : Pob) : Bool := (mfind (netL l) r.num).isSome && decide ((leadI l r).gen = r.gen)
theorem netL_nil : netL [] = [] := rfl
theorem netL_take {l : List Itm} {k : Nat} (h : k < l.length) : netL (l.take (k + 1)) = netL (l.take k) ++ [((l.getD k Itm.zero).num, l.getD k Itm.zero)] := by
  simp only [netL, List.map_take]
  rw [List.take_add_one (l := l.map _)]
  simp [h, List.getD]
theorem netL_new {l : List Itm} {k : Nat} (hs : incrN l) (h : k < l.length) : mset (netL (l.take k)) (l.getD k Itm.zero).num (l.getD k Itm.zero) = netL (l.take (k + 1)) := by
  rw [netL_take h]
  apply mset_new
  intro hm
  simp only [netL, List.map_map, List.mem_map, Function.comp] at hm
  obtain ⟨x, hx, e⟩ := hm
  obtain ⟨j, hj, rfl⟩ := List.mem_iff_getElem.1 hx
  have hj' : j < k := by simp at hj; omega
  have := hs j k hj' h
  simp only [List.getElem_take] at e
  rw [List.getD_eq_getElem?_getD, List.getElem?_eq_getElem (by omega)] at this
  simp only [Option.getD_some] at this
  omega
theorem zero_itm : ∀ m : Mem, Rep m 1 (VI Itm.zero) (.agg #[.int .i64 0, .int .i64 0, .int .i64 0, .int .i64 0, .int .i64 0, .string ⟨#[]⟩, .slice none 0 0, .slice none 0 0]) := by
  intro m
  simp only [VI, Itm.cells, Rep, RepL]
  exact ⟨_, rfl, _, _, rfl, rfl, _, _, rfl, rfl, _, _, rfl, rfl, _, _, rfl, rfl, _, _, rfl, rfl, _, _, rfl, rfl, _, _, rfl, .inl ⟨rfl, none, 0, rfl⟩, _, _, rfl, .inl ⟨rfl, none, 0, rfl⟩, rfl⟩
end Aw

namespace Go.Proofs
open Go Aw
set_option linter.unusedSimpArgs false
set_option linter.unusedVariables false
set_option maxRecDepth 100000
set_option maxHeartbeats 2000000
theorem noTL_VI : ∀ l : List (Int × Itm), noTL (l.map fun p => VI p.2) = true
  | [] => rfl
  | p :: l => by simp only [List.map_cons, noTL, VI, noT, Itm.cells, Bool.and_self, Bool.true_and]; exact noTL_VI l
theorem noTL_KI : ∀ l : List (Int × Itm), noTL (l.map fun p => KI p.1) = true
  | [] => rfl
  | p :: l => by simp only [List.map_cons, noTL, noT, Bool.true_and]; exact noTL_KI l
theorem noTBm_net (l : List (Int × Itm)) : noTBm (mapOf KI VI l) = true := by simp only [mapOf, noTBm, noTL_VI, noTL_KI, Bool.and_self]
attribute [local go_sem ↓ high] noTBm_net
attribute [local go_sem] mres netL_nil VI leadI leadB
theorem c_graph_leads (gl : List (Nat × AV)) (l : List Itm) (o : Pob) : FnP Try.prog (gl) 28 [cmapOf KI VI (netL l), .agg o.cells] fun r => r = .ret (.tup [.agg (leadI l o).cells, .bool (leadB l o)]) := by
  refine FnP.intro Try.func28 rfl rfl (by simp [Try.ntmps28]) ?_
  simp only [argEnv, Try.ntmps28, Try.results28]
  refine AW.rS ?_
  refine AW.rSC ?_
  refine awOps.cons ?_
  refine awGuard.lkC (keyOk_int .i64) Itm.zero zero_itm rfl ?_
  refine awOps.rn ?_
  refine AW.sS [0, 1, 2, 3, 4, 5, 6, 7, 8] 9 [(10, 2)] [(0, .cells o.cells), (1, .cells (leadI l o).cells), (2, .cells (leadI l o).cells)] ?_
  refine awFunE.p ?_
  refine awFunE.p ?_
  refine awFunE.p ?_
  refine awFunE.p ?_
  refine awFunE.p ?_
  refine awFunE.p ?_
  refine awFunE.p ?_
  refine awFunE.p ?_
  refine awFunE.p ?_
  rw [Aw.awFunE_nil]
  refine ⟨EffAt.of [4, 15], ?_⟩
  refine awPlan.rn ?_
  refine AW.rt ?_
  simp only [Bool.cond_false_right]; rfl
theorem h_graph_refs (gl : List (Nat × AV)) (o : Pob) : FnH Try.prog (gl) 27 [.agg o.cells] ([]) 0 (fun r h n => r = .ret (.clos 44 [.ptr 0 0]) ∧ h = [(0, .cells o.cells)] ∧ n = 1) := by
  refine FnH.intro Try.func27 rfl rfl (by simp [Try.ntmps27]) ?_
  simp only [argEnv, Try.ntmps27, Try.results27]
  refine AW.rS ?_
  refine AW.rS ?_
  refine AW.rt ?_
  all_goals first | contradiction | rfl | (simp; done) | (simp; omega)
theorem h_graph_all (gl : List (Nat × AV)) (d : Dc) : FnH Try.prog (gl) 26 [.agg d.cells] ([]) 0 (fun r h n => r = .ret (.clos 43 [.ptr 0 0]) ∧ h = [(0, .cells d.cells)] ∧ n = 1) := by
  refine FnH.intro Try.func26 rfl rfl (by simp [Try.ntmps26]) ?_
  simp only [argEnv, Try.ntmps26, Try.results26]
  refine AW.rS ?_
  refine AW.rS ?_
  refine AW.rt ?_
  all_goals first | contradiction | rfl | (simp; done) | (simp; omega)
theorem h_graph_of (gl : List (Nat × AV)) (d : Dc) (hv : docE d = 0) (h : d.bulk ≤ 16777216) : FnH Try.prog (gl) 23 [.agg d.cells] ([]) 0 (fun r h n => r = .ret (.tup [.map 0, .bool true]) ∧ h = [(0, mapOf KI VI (netL d.items))] ∧ n = 1) := by
  refine FnH.intro Try.func23 rfl rfl (by simp [Try.ntmps23]) ?_
  simp only [argEnv, Try.ntmps23, Try.results23]
  have hs := items_incr (docE_items hv)
  have hb : d.bulk = ibulk d.items + d.trailer.bulk := rfl
  have hl := ibulk_len d.items
  refine AW.rS ?_
  refine AW.seq ?_
  refine AW.rSC ?_
  refine awOps.cons (awGuard.c1 (c_docs_Check _ d h) ?_)
  refine awOps.rn ?_
  refine AW.c2 ?_ ?_
  · intro h6
    exact absurd hv h6
  · intro h6
    refine AW.skip ?_
    refine AW.rSC ?_
    refine awOps.cons ?_
    refine awGuard.mkM VI (keyOk_int .i64) ?_
    refine awOps.rn ?_
    refine AW.seq ?_
    refine AW.rS ?_
    refine AW.block ?_
    refine AW.lk (S := { k : Nat // k ≤ d.items.length }) [4, 15, 16] (fun s_ => [(17, .int .i64 s_.1)]) (fun s_ => [(0, .cells d.cells), (1, mapOf KI VI (netL (d.items.take s_.1)))]) 2 (fun s_ => d.items.length - s_.1) ⟨0, Nat.zero_le _⟩ ?_ ?_
    · refine St.le.vw [0, 1]
    rintro ⟨k, hk⟩
    try dsimp only at hk
    refine AW.rS ?_
    refine AW.seq ?_
    refine AW.c2 ?_ ?_
    · intro h20
      refine AW.skip ?_
      refine AW.seq ?_
      refine AW.block ?_
      refine AW.rS ?_
      refine AW.rLC ?_
      refine awOps.cons ?_
      refine awGuard.upM (keyOk_int .i64) (d.items.getD k Itm.zero) ?_
      refine awOps.rn ?_
      refine AW.rL ?_
      refine ⟨⟨k + 1, by omega⟩, ?_, ?_⟩
      · refine St.le.vx [0, 1] ?_
        rw [netL_new hs (by omega)]
      · simp only []; omega
    · intro h20
      refine AW.exit ?_
      obtain rfl : k = d.items.length := by omega
      rw [List.take_length]
      refine AW.rS ?_
      refine AW.pre (σ' := ⟨27, [(2, .map 0), (3, .bool true)], [(0, mapOf KI VI (netL d.items))], 1, gl, 0, []⟩) (St.le.vw [1]) ?_
      refine AW.rt ?_
      all_goals first | contradiction | rfl | (simp; done) | (simp; omega)
end Go.Proofs

namespace Aw
open Go
section
variable {S α : Type} (stp : S → α → S × Bool)
def runL : S → List α → S × Bool
  | s, [] => (s, false)
  | s, x :: l => if (stp s x).2 then ((stp s x).1, true) else runL (stp s x).1 l
theorem runL_append (s : S) (a b : List α) : runL stp s (a ++ b) = if (runL stp s a).2 then ((runL stp s a).1, true) else runL stp (runL stp s a).1 b := by
  induction a generalizing s with
  | nil => simp [runL]
  | cons x a ih =>
    simp only [List.cons_append, runL]
    by_cases h : (stp s x).2 = true
    · simp only [if_pos h, if_true]
    · simp only [if_neg h]
      exact ih _
theorem runL_inv {I : S → Prop} (hI : ∀ s x, I s → I (stp s x).1) : ∀ (l : List α) (s : S), I s → I (runL stp s l).1
  | [], s, h => h
  | x :: l, s, h => by
    simp only [runL]
    split
    · exact hI s x h
    · exact runL_inv hI l _ (hI s x h)
end
/-- the visit of a reference; others are passed by -/
def refW {S : Type} (stp : S → Pob → S × Bool) (s : S) (o : Pob) : S × Bool := if o.kind = 8 then stp s o else (s, false)
def walkR {S : Type} (stp : S → Pob → S × Bool) (s : S) (l : List Pob) : S × Bool := runL (refW stp) s l
section
variable {S : Type} {stp : S → Pob → S × Bool}
theorem walkR_nil (s : S) : walkR stp s [] = (s, false) := rfl
theorem walkR_stop {s : S} {o : Pob} {l : List Pob} (hk : o.kind = 8) (h : (stp s o).2 = true) : walkR stp s (o :: l) = ((stp s o).1, true) := by
  simp [walkR, runL, refW, hk, h]
theorem walkR_go {s : S} {o : Pob} {l : List Pob} (hk : o.kind = 8) (h : (stp s o).2 = false) : walkR stp s (o :: l) = walkR stp (stp s o).1 l := by
  simp [walkR, runL, refW, hk, h]
theorem walkR_no {s : S} {o : Pob} {l : List Pob} (hk : ¬ o.kind = 8) : walkR stp s (o :: l) = walkR stp s l := by
  simp [walkR, runL, refW, hk]
theorem walkR_app (s : S) (a b : List Pob) : walkR stp s (a ++ b) = if (walkR stp s a).2 then ((walkR stp s a).1, true) else walkR stp (walkR stp s a).1 b := runL_append _ s a b
theorem walkR_inv {I : S → Prop} (hI : ∀ s x, I s → I (stp s x).1) (l : List Pob) (s : S) (h : I s) : I (walkR stp s l).1 :=
  runL_inv (refW stp) (fun s x h => by unfold refW; split; exact hI s x h; exact h) l s h
theorem walkR_kid {s : S} {l : List Pob} {i : Nat} (hi : i < l.length) (hg : (walkR stp s (pres (l.take i))).2 = false) (hh : (walkR stp (walkR stp s (pres (l.take i))).1 (l.getD i Pob.null).pre).2 = true) :
    walkR stp s (pres l) = ((walkR stp (walkR stp s (pres (l.take i))).1 (l.getD i Pob.null).pre).1, true) := by
  have e : pres l = (pres (l.take i) ++ (l.getD i Pob.null).pre) ++ pres (l.drop (i + 1)) := by
    rw [← pres_take hi, ← pres_append, List.take_append_drop]
  rw [e, walkR_app, walkR_app]
  simp only [hg, Bool.false_eq_true, if_false, hh, if_true]
theorem walkR_more {s : S} {l : List Pob} {i : Nat} (hi : i < l.length) (hg : (walkR stp s (pres (l.take i))).2 = false) (hh : (walkR stp (walkR stp s (pres (l.take i))).1 (l.getD i Pob.null).pre).2 = false) :
    walkR stp s (pres (l.take (i + 1))) = ((walkR stp (walkR stp s (pres (l.take i))).1 (l.getD i Pob.null).pre).1, false) := by
  rw [pres_take hi, walkR_app]
  simp only [hg, Bool.false_eq_true, if_false]
  rw [← hh]
end
/-- the trailer and the objects of all items, by number -/
def allL (d : Dc) : List (Int × Pob) := (0, d.trailer) :: d.items.map fun i => (i.num, i.obj)
theorem allL_top {d : Dc} : ((0 : Int), d.trailer) ∈ allL d := List.mem_cons_self
theorem allL_mem {d : Dc} {i : Nat} (h : i < d.items.length) : ((d.items.getD i Itm.zero).num, (d.items.getD i Itm.zero).obj) ∈ allL d := by
  refine List.mem_cons_of_mem _ (List.mem_map.2 ⟨d.items.getD i Itm.zero, ?_, rfl⟩)
  rw [List.getD_eq_getElem?_getD, List.getElem?_eq_getElem h]
  exact List.getElem_mem h
def foldI {S : Type} (stp : S → Int → Pob → S) (s : S) (l : List Itm) : S := l.foldl (fun s i => stp s i.num i.obj) s
theorem foldI_succ {S : Type} {stp : S → Int → Pob → S} {s : S} {l : List Itm} {i : Nat} (h : i < l.length) : foldI stp s (l.take (i + 1)) = stp (foldI stp s (l.take i)) (l.getD i Itm.zero).num (l.getD i Itm.zero).obj := by
  unfold foldI
  rw [List.take_add_one, List.getElem?_eq_getElem h, List.foldl_append]
  simp only [Option.toList_some, List.foldl_cons, List.foldl_nil]
  rw [List.getD_eq_getElem?_getD, List.getElem?_eq_getElem h]
  rfl
theorem foldI_inv {S : Type} {stp : S → Int → Pob → S} {I : S → Prop} {d : Dc} (hI : ∀ s n o, I s → (n, o) ∈ allL d → I (stp s n o)) {s : S} (hs : I s) : ∀ i, I (foldI stp s (d.items.take i))
  | 0 => by simpa [foldI] using hs
  | i + 1 => by
    by_cases h : i < d.items.length
    · rw [foldI_succ h]
      exact hI _ _ _ (foldI_inv hI hs i) (allL_mem h)
    · rw [List.take_of_length_le (by omega)]
      have := foldI_inv hI hs i
      rwa [List.take_of_length_le (by omega)] at this
theorem le_sum_mem : ∀ {l : List Nat} {x : Nat}, x ∈ l → x ≤ l.sum
  | [], _, h => by cases h
  | y :: l, x, h => by
    rw [List.sum_cons]
    rcases List.mem_cons.1 h with rfl | h
    · omega
    · have := le_sum_mem h; omega
theorem allL_bulk {d : Dc} {n : Int} {o : Pob} (hm : (n, o) ∈ allL d) {k : Nat} (h : d.bulk ≤ k) : o.bulk ≤ k := by
  have hb : d.bulk = ibulk d.items + d.trailer.bulk := rfl
  rcases List.mem_cons.1 hm with e | hm
  · injection e with _ e
    subst e
    omega
  · obtain ⟨i, hi, e⟩ := List.mem_map.1 hm
    injection e with _ e
    subst e
    have : i.obj.bulk + 1 ≤ ibulk d.items := by
      unfold ibulk
      exact le_sum_mem (List.mem_map.2 ⟨i, hi, rfl⟩)
    omega
end Aw

namespace Go.Proofs
open Go Aw
theorem noTL_dcells (z : Dc) : noTL z.cells = true := by cases z; rfl
end Go.Proofs

namespace Go.Proofs
open Go Aw
set_option linter.unusedSimpArgs false
set_option linter.unusedVariables false
set_option maxRecDepth 100000
set_option maxHeartbeats 1000000
attribute [local go_sem ↓ high] noTBm_net
theorem wd_step (gl : List (Nat × AV)) (l : List Itm) (o0 : Pob) (stp : List Int → Pob → List Int × Bool) (c0 : Code) (I : List Int → Prop) (hI : ∀ s o, I s → I (stp s o).1) (lq : Nat) (rc : Option Code → Loop) {Ω : Mem → Prop} [LastsU Ω]
    (hY : ∀ s o, I s → RoundU Ω Try.prog gl lq [.agg (Pob.cells o)] ([(0, .cells [.map 1]), (1, mapOf KI VI (netL l)), (2, .cells [.map 3]), (3, setOf (fun n => AV.int .i64 n) s), (4, .cells (Pob.cells o0)), (5, .lp lq (rc none))]) 6 6 fun r h n => r = .ret (.bool (!(stp s o).2)) ∧ h = [(0, .cells [.map 1]), (1, mapOf KI VI (netL l)), (2, .cells [.map 3]), (3, setOf (fun n => AV.int .i64 n) (stp s o).1), (4, .cells (Pob.cells o0)), (5, .lp lq (rc (if (stp s o).2 then some c0 else none)))] ∧ n = 6)
    (N : Nat) (hN : N ≤ 16777216) (ih : ∀ s (o' : Pob), I s → o'.bulk < N → FnU Ω Try.prog gl 45 [.agg (Pob.cells o'), .raw (.func (.yield lq) #[] #[])] ([(0, .cells [.map 1]), (1, mapOf KI VI (netL l)), (2, .cells [.map 3]), (3, setOf (fun n => AV.int .i64 n) s), (4, .cells (Pob.cells o0)), (5, .lp lq (rc none))]) 6 6 (fun r h n => r = .ret (.bool (!(walkR stp s (Pob.pre o')).2)) ∧ h = [(0, .cells [.map 1]), (1, mapOf KI VI (netL l)), (2, .cells [.map 3]), (3, setOf (fun n => AV.int .i64 n) (walkR stp s (Pob.pre o')).1), (4, .cells (Pob.cells o0)), (5, .lp lq (rc (if (walkR stp s (Pob.pre o')).2 then some c0 else none)))] ∧ n = 6))
    (s : List Int) (hs : I s) (o : Pob) (hl : o.kids.length ≤ 16777216) (hb : ∀ i, i < o.kids.length → (o.kids.getD i Pob.null).bulk < N) :
    FnU Ω Try.prog gl 45 [.agg (Pob.cells o), .raw (.func (.yield lq) #[] #[])] ([(0, .cells [.map 1]), (1, mapOf KI VI (netL l)), (2, .cells [.map 3]), (3, setOf (fun n => AV.int .i64 n) s), (4, .cells (Pob.cells o0)), (5, .lp lq (rc none))]) 6 6 (fun r h n => r = .ret (.bool (!(walkR stp s (Pob.pre o)).2)) ∧ h = [(0, .cells [.map 1]), (1, mapOf KI VI (netL l)), (2, .cells [.map 3]), (3, setOf (fun n => AV.int .i64 n) (walkR stp s (Pob.pre o)).1), (4, .cells (Pob.cells o0)), (5, .lp lq (rc (if (walkR stp s (Pob.pre o)).2 then some c0 else none)))] ∧ n = 6) := by
  have hpre := Pob.pre_eq o
  refine FnU.intro Try.func45 rfl rfl (by simp [Try.ntmps45]) ?_ ?_
  · rintro q hp' nx' ⟨rfl, rfl, rfl⟩
    exact ⟨by simp only [↓noTHm_cons, noTHm, ↓noTBm_ints, ↓noTBm_net, noTBm, noTL, noT, noTL_cells, Bool.and_self], _, rfl, rfl⟩
  intro B_
  simp only [argEnv, Try.ntmps45, Try.results45]
  refine AWT.rS ?_
  refine AWT.seq ?_
  refine AWT.rSC ?_
  by_cases hk : o.kind = 8
  · have hy := hY s o hs
    cases hst : (stp s o).2
    · simp only [hst, Bool.not_false, Bool.false_eq_true, if_false] at hy
      have hw_stop : ∀ i, i < o.kids.length → (walkR stp (stp s o).1 (pres (o.kids.take i))).2 = false → (walkR stp (walkR stp (stp s o).1 (pres (o.kids.take i))).1 (o.kids.getD i Pob.null).pre).2 = true → walkR stp s (o :: pres o.kids) = ((walkR stp (walkR stp (stp s o).1 (pres (o.kids.take i))).1 (o.kids.getD i Pob.null).pre).1, true) := fun i hi hg hh => by rw [walkR_go hk hst]; exact walkR_kid hi hg hh
      have hw_end : ∀ i, ¬ i < o.kids.length → (walkR stp (stp s o).1 (pres (o.kids.take i))).2 = false → walkR stp s (o :: pres o.kids) = ((walkR stp (stp s o).1 (pres (o.kids.take i))).1, false) := fun i hi hg => by rw [walkR_go hk hst, ← hg]; rw [List.take_of_length_le (by omega)]
      refine OpsT.cYG [0, 1, 2, 3, 4, 5] hy (hgv := by simp only [go_sem, seval]; simp [hk]) ?_
      refine OpsT.rn ?_
      refine OpsT.nil ?_
      refine AWT.c2 ?_ ?_
      · intro h
        simp at h
      · intro _
        refine AWT.skip ?_
        refine AWT.seq ?_
        refine AWT.rS ?_
        refine AWT.block ?_
        refine AWT.lk (S := { i : Nat // i ≤ o.kids.length ∧ (walkR stp (stp s o).1 (pres (o.kids.take i))).2 = false }) [1, 17, 18] (fun s_ => [(19, .int .i64 s_.1)]) (fun s_ => [(0, .cells [.map 1]), (1, mapOf KI VI (netL l)), (2, .cells [.map 3]), (3, setOf (fun n => AV.int .i64 n) (walkR stp (stp s o).1 (pres (o.kids.take s_.1))).1), (4, .cells (Pob.cells o0)), (5, .lp lq (rc none))]) 6 (fun s_ => o.kids.length - s_.1) ⟨0, Nat.zero_le _, by simp [pres_nil, walkR_nil]⟩ ?_ ?_
        · refine St.le.vx [0, 1, 2, 3, 4, 5] (hpre := (by decide : ∀ i, i < 6 → nth [0, 1, 2, 3, 4, 5] i = some i)) ?_
          simp [pres_nil, walkR_nil]
        rintro ⟨i, hi, hgo⟩
        try dsimp only at hi
        try dsimp only at hgo
        have hsi : I (walkR stp (stp s o).1 (pres (o.kids.take i))).1 := walkR_inv hI _ _ (hI _ _ hs)
        refine AWT.rS ?_
        refine AWT.seq ?_
        refine AWT.c2 ?_ ?_
        · intro h17
          refine AWT.skip ?_
          refine AWT.seq ?_
          refine AWT.block ?_
          refine AWT.rS ?_
          refine AWT.rSC ?_
          have hc := ih _ (o.kids.getD i Pob.null) hsi (hb i (by omega))
          have htk := pres_take (l := o.kids) (i := i) (by omega)
          cases hst : (walkR stp (walkR stp (stp s o).1 (pres (o.kids.take i))).1 (o.kids.getD i Pob.null).pre).2
          · simp only [hst, Bool.not_false, Bool.false_eq_true, if_false] at hc
            refine OpsT.cTU [0, 1, 2, 3, 4, 5] hc ?_
            refine OpsT.rn ?_
            refine OpsT.nil ?_
            refine AWT.c2 ?_ ?_
            · intro h
              simp at h
            · intro _
              refine AWT.skip ?_
              refine AWT.rL ?_
              have e1 : walkR stp (stp s o).1 (pres (o.kids.take (i + 1))) = ((walkR stp (walkR stp (stp s o).1 (pres (o.kids.take i))).1 (o.kids.getD i Pob.null).pre).1, false) := walkR_more (by omega) hgo hst
              refine ⟨⟨i + 1, by omega, by rw [e1]⟩, ?_, ?_⟩
              · refine St.le.vx [0, 1, 2, 3, 4, 5] (hpre := (by decide : ∀ i, i < 6 → nth [0, 1, 2, 3, 4, 5] i = some i)) ?_
                rw [e1]
                all_goals simp
              · simp only []; omega
          · simp only [hst, Bool.not_true, if_true] at hc
            refine OpsT.cTU [0, 1, 2, 3, 4, 5] hc ?_
            refine OpsT.rn ?_
            refine OpsT.nil ?_
            refine AWT.c2 ?_ ?_
            · intro h
              refine AWT.rS ?_
              refine AWT.pre (σ' := ⟨28, [(4, .bool false)], [(0, .cells [.map 1]), (1, mapOf KI VI (netL l)), (2, .cells [.map 3]), (3, setOf (fun n => AV.int .i64 n) (walkR stp (walkR stp (stp s o).1 (pres (o.kids.take i))).1 (o.kids.getD i Pob.null).pre).1), (4, .cells (Pob.cells o0)), (5, .lp lq (rc (some c0)))], 6, gl, 6, []⟩) (St.le.vw [0, 1, 2, 3, 4, 5] (hpre := (by decide : ∀ i, i < 6 → nth [0, 1, 2, 3, 4, 5] i = some i))) ?_
              refine AWT.rt ?_
              have e := hw_stop  i (by omega) hgo hst
              rw [hpre, e]
              simp
            · intro h
              simp at h
        · intro h17
          refine AWT.exit ?_
          refine AWT.rS ?_
          refine AWT.pre (σ' := ⟨28, [(4, .bool true)], [(0, .cells [.map 1]), (1, mapOf KI VI (netL l)), (2, .cells [.map 3]), (3, setOf (fun n => AV.int .i64 n) (walkR stp (stp s o).1 (pres (o.kids.take i))).1), (4, .cells (Pob.cells o0)), (5, .lp lq (rc none))], 6, gl, 6, []⟩) (St.le.vw [0, 1, 2, 3, 4, 5] (hpre := (by decide : ∀ i, i < 6 → nth [0, 1, 2, 3, 4, 5] i = some i))) ?_
          refine AWT.rt ?_
          have e := hw_end i (by omega) hgo
          rw [hpre, e]
          simp
    · simp only [hst, Bool.not_true, if_true] at hy
      refine OpsT.cYG [0, 1, 2, 3, 4, 5] hy (hgv := by simp only [go_sem, seval]; simp [hk]) ?_
      refine OpsT.rn ?_
      refine OpsT.nil ?_
      refine AWT.c2 ?_ ?_
      · intro h
        refine AWT.rS ?_
        refine AWT.pre (σ' := ⟨28, [(4, .bool false)], [(0, .cells [.map 1]), (1, mapOf KI VI (netL l)), (2, .cells [.map 3]), (3, setOf (fun n => AV.int .i64 n) (stp s o).1), (4, .cells (Pob.cells o0)), (5, .lp lq (rc (some c0)))], 6, gl, 6, []⟩) (St.le.vw [0, 1, 2, 3, 4, 5] (hpre := (by decide : ∀ i, i < 6 → nth [0, 1, 2, 3, 4, 5] i = some i))) ?_
        refine AWT.rt ?_
        rw [hpre, walkR_stop hk hst]
        simp
      · intro h
        simp [hk] at h
  · skip
    have hw_stop : ∀ i, i < o.kids.length → (walkR stp s (pres (o.kids.take i))).2 = false → (walkR stp (walkR stp s (pres (o.kids.take i))).1 (o.kids.getD i Pob.null).pre).2 = true → walkR stp s (o :: pres o.kids) = ((walkR stp (walkR stp s (pres (o.kids.take i))).1 (o.kids.getD i Pob.null).pre).1, true) := fun i hi hg hh => by rw [walkR_no hk]; exact walkR_kid hi hg hh
    have hw_end : ∀ i, ¬ i < o.kids.length → (walkR stp s (pres (o.kids.take i))).2 = false → walkR stp s (o :: pres o.kids) = ((walkR stp s (pres (o.kids.take i))).1, false) := fun i hi hg => by rw [walkR_no hk, ← hg]; rw [List.take_of_length_le (by omega)]
    refine OpsT.gN (.bool true) ?_ (hgv := by simp only [go_sem, seval]; simp [hk])
    refine OpsT.rn ?_
    refine OpsT.nil ?_
    refine AWT.c2 ?_ ?_
    · intro h
      simp [hk] at h
    · intro _
      refine AWT.skip ?_
      refine AWT.seq ?_
      refine AWT.rS ?_
      refine AWT.block ?_
      refine AWT.lk (S := { i : Nat // i ≤ o.kids.length ∧ (walkR stp s (pres (o.kids.take i))).2 = false }) [1, 17, 18] (fun s_ => [(19, .int .i64 s_.1)]) (fun s_ => [(0, .cells [.map 1]), (1, mapOf KI VI (netL l)), (2, .cells [.map 3]), (3, setOf (fun n => AV.int .i64 n) (walkR stp s (pres (o.kids.take s_.1))).1), (4, .cells (Pob.cells o0)), (5, .lp lq (rc none))]) 6 (fun s_ => o.kids.length - s_.1) ⟨0, Nat.zero_le _, by simp [pres_nil, walkR_nil]⟩ ?_ ?_
      · refine St.le.vx [0, 1, 2, 3, 4, 5] (hpre := (by decide : ∀ i, i < 6 → nth [0, 1, 2, 3, 4, 5] i = some i)) ?_
        simp [pres_nil, walkR_nil]
      rintro ⟨i, hi, hgo⟩
      try dsimp only at hi
      try dsimp only at hgo
      have hsi : I (walkR stp s (pres (o.kids.take i))).1 := walkR_inv hI _ _ hs
      refine AWT.rS ?_
      refine AWT.seq ?_
      refine AWT.c2 ?_ ?_
      · intro h17
        refine AWT.skip ?_
        refine AWT.seq ?_
        refine AWT.block ?_
        refine AWT.rS ?_
        refine AWT.rSC ?_
        have hc := ih _ (o.kids.getD i Pob.null) hsi (hb i (by omega))
        have htk := pres_take (l := o.kids) (i := i) (by omega)
        cases hst : (walkR stp (walkR stp s (pres (o.kids.take i))).1 (o.kids.getD i Pob.null).pre).2
        · simp only [hst, Bool.not_false, Bool.false_eq_true, if_false] at hc
          refine OpsT.cTU [0, 1, 2, 3, 4, 5] hc ?_
          refine OpsT.rn ?_
          refine OpsT.nil ?_
          refine AWT.c2 ?_ ?_
          · intro h
            simp at h
          · intro _
            refine AWT.skip ?_
            refine AWT.rL ?_
            have e1 : walkR stp s (pres (o.kids.take (i + 1))) = ((walkR stp (walkR stp s (pres (o.kids.take i))).1 (o.kids.getD i Pob.null).pre).1, false) := walkR_more (by omega) hgo hst
            refine ⟨⟨i + 1, by omega, by rw [e1]⟩, ?_, ?_⟩
            · refine St.le.vx [0, 1, 2, 3, 4, 5] (hpre := (by decide : ∀ i, i < 6 → nth [0, 1, 2, 3, 4, 5] i = some i)) ?_
              rw [e1]
              all_goals simp
            · simp only []; omega
        · simp only [hst, Bool.not_true, if_true] at hc
          refine OpsT.cTU [0, 1, 2, 3, 4, 5] hc ?_
          refine OpsT.rn ?_
          refine OpsT.nil ?_
          refine AWT.c2 ?_ ?_
          · intro h
            refine AWT.rS ?_
            refine AWT.pre (σ' := ⟨28, [(4, .bool false)], [(0, .cells [.map 1]), (1, mapOf KI VI (netL l)), (2, .cells [.map 3]), (3, setOf (fun n => AV.int .i64 n) (walkR stp (walkR stp s (pres (o.kids.take i))).1 (o.kids.getD i Pob.null).pre).1), (4, .cells (Pob.cells o0)), (5, .lp lq (rc (some c0)))], 6, gl, 6, []⟩) (St.le.vw [0, 1, 2, 3, 4, 5] (hpre := (by decide : ∀ i, i < 6 → nth [0, 1, 2, 3, 4, 5] i = some i))) ?_
            refine AWT.rt ?_
            have e := hw_stop  i (by omega) hgo hst
            rw [hpre, e]
            simp
          · intro h
            simp at h
      · intro h17
        refine AWT.exit ?_
        refine AWT.rS ?_
        refine AWT.pre (σ' := ⟨28, [(4, .bool true)], [(0, .cells [.map 1]), (1, mapOf KI VI (netL l)), (2, .cells [.map 3]), (3, setOf (fun n => AV.int .i64 n) (walkR stp s (pres (o.kids.take i))).1), (4, .cells (Pob.cells o0)), (5, .lp lq (rc none))], 6, gl, 6, []⟩) (St.le.vw [0, 1, 2, 3, 4, 5] (hpre := (by decide : ∀ i, i < 6 → nth [0, 1, 2, 3, 4, 5] i = some i))) ?_
        refine AWT.rt ?_
        have e := hw_end i (by omega) hgo
        rw [hpre, e]
        simp
theorem wd_all (gl : List (Nat × AV)) (l : List Itm) (o0 : Pob) (stp : List Int → Pob → List Int × Bool) (c0 : Code) (I : List Int → Prop) (hI : ∀ s o, I s → I (stp s o).1) (lq : Nat) (rc : Option Code → Loop) {Ω : Mem → Prop} [LastsU Ω]
    (hY : ∀ s o, I s → RoundU Ω Try.prog gl lq [.agg (Pob.cells o)] ([(0, .cells [.map 1]), (1, mapOf KI VI (netL l)), (2, .cells [.map 3]), (3, setOf (fun n => AV.int .i64 n) s), (4, .cells (Pob.cells o0)), (5, .lp lq (rc none))]) 6 6 fun r h n => r = .ret (.bool (!(stp s o).2)) ∧ h = [(0, .cells [.map 1]), (1, mapOf KI VI (netL l)), (2, .cells [.map 3]), (3, setOf (fun n => AV.int .i64 n) (stp s o).1), (4, .cells (Pob.cells o0)), (5, .lp lq (rc (if (stp s o).2 then some c0 else none)))] ∧ n = 6) (N : Nat) :
    N ≤ 16777216 → ∀ s (o : Pob), I s → o.bulk ≤ N → FnU Ω Try.prog gl 45 [.agg (Pob.cells o), .raw (.func (.yield lq) #[] #[])] ([(0, .cells [.map 1]), (1, mapOf KI VI (netL l)), (2, .cells [.map 3]), (3, setOf (fun n => AV.int .i64 n) s), (4, .cells (Pob.cells o0)), (5, .lp lq (rc none))]) 6 6 (fun r h n => r = .ret (.bool (!(walkR stp s (Pob.pre o)).2)) ∧ h = [(0, .cells [.map 1]), (1, mapOf KI VI (netL l)), (2, .cells [.map 3]), (3, setOf (fun n => AV.int .i64 n) (walkR stp s (Pob.pre o)).1), (4, .cells (Pob.cells o0)), (5, .lp lq (rc (if (walkR stp s (Pob.pre o)).2 then some c0 else none)))] ∧ n = 6) := by
  induction N using Nat.strongRecOn with
  | ind N IH =>
    intro hN s o hs ho
    have hb := Pob.bulk_eq o
    exact wd_step gl l o0 stp c0 I hI lq rc hY N hN (fun s o' hs h => IH o'.bulk h (by omega) s o' hs (Nat.le_refl _)) s hs o (by omega) (fun i hi => Nat.lt_of_lt_of_le (Pob.bulk_kid hi) ho)

theorem wd_refs (gl : List (Nat × AV)) (l : List Itm) (o0 : Pob) (stp : List Int → Pob → List Int × Bool) (c0 : Code) (I : List Int → Prop) (hI : ∀ s o, I s → I (stp s o).1) (lq : Nat) (rc : Option Code → Loop) {Ω : Mem → Prop} [LastsU Ω]
    (hY : ∀ s o, I s → RoundU Ω Try.prog gl lq [.agg (Pob.cells o)] ([(0, .cells [.map 1]), (1, mapOf KI VI (netL l)), (2, .cells [.map 3]), (3, setOf (fun n => AV.int .i64 n) s), (4, .cells (Pob.cells o0)), (5, .lp lq (rc none))]) 6 6 fun r h n => r = .ret (.bool (!(stp s o).2)) ∧ h = [(0, .cells [.map 1]), (1, mapOf KI VI (netL l)), (2, .cells [.map 3]), (3, setOf (fun n => AV.int .i64 n) (stp s o).1), (4, .cells (Pob.cells o0)), (5, .lp lq (rc (if (stp s o).2 then some c0 else none)))] ∧ n = 6)
    (s : List Int) (hs : I s) (h : (Pob.bulk o0) ≤ 16777216) : FnU Ω Try.prog gl 44 [.raw (.func (.yield lq) #[] #[]), .ptr 4 0] ([(0, .cells [.map 1]), (1, mapOf KI VI (netL l)), (2, .cells [.map 3]), (3, setOf (fun n => AV.int .i64 n) s), (4, .cells (Pob.cells o0)), (5, .lp lq (rc none))]) 6 6 (fun r h n => r = .ret (.tup []) ∧ h = [(0, .cells [.map 1]), (1, mapOf KI VI (netL l)), (2, .cells [.map 3]), (3, setOf (fun n => AV.int .i64 n) (walkR stp s (Pob.pre o0)).1), (4, .cells (Pob.cells o0)), (5, .lp lq (rc (if (walkR stp s (Pob.pre o0)).2 then some c0 else none)))] ∧ n = 6) := by
  refine FnU.intro Try.func44 rfl rfl (by simp [Try.ntmps44]) ?_ ?_
  · rintro q hp' nx' ⟨rfl, rfl, rfl⟩
    exact ⟨by simp only [↓noTHm_cons, noTHm, ↓noTBm_ints, ↓noTBm_net, noTBm, noTL, noT, noTL_cells, noTL_dcells, Bool.and_self], _, rfl, rfl⟩
  intro B_
  simp only [argEnv, Try.ntmps44, Try.results44]
  refine AWT.rLC ?_
  refine OpsT.cTU [0, 1, 2, 3, 4, 5] (wd_all gl l o0 stp c0 I hI lq rc hY 16777216 (Nat.le_refl _) s o0 hs h) ?_
  refine OpsT.rn ?_
  refine OpsT.nil ?_
  refine wk ?_
  all_goals first | contradiction | rfl | (simp; done) | (simp; omega)

theorem ad_all (gl : List (Nat × AV)) (d : Dc) (l : List Itm) (stp : List Int → Int → Pob → List Int) (I : List Int → Prop) (hI : ∀ s n o, I s → (n, o) ∈ allL d → I (stp s n o)) (lq : Nat) (rc : Option Code → Loop) {Ω : Mem → Prop} [LastsU Ω]
    (hY : ∀ s (n : Int) o, I s → (n, o) ∈ allL d → RoundU Ω Try.prog gl lq [.int .i64 n, .agg (Pob.cells o)] ([(0, .cells [.map 1]), (1, mapOf KI VI (netL l)), (2, .cells [.map 3]), (3, setOf (fun n => AV.int .i64 n) s), (4, .cells (Dc.cells d)), (5, .lp lq (rc none))]) 6 6 fun r h k => r = .ret (.bool true) ∧ h = [(0, .cells [.map 1]), (1, mapOf KI VI (netL l)), (2, .cells [.map 3]), (3, setOf (fun n => AV.int .i64 n) (stp s n o)), (4, .cells (Dc.cells d)), (5, .lp lq (rc none))] ∧ k = 6)
    (s : List Int) (hs : I s) (h : d.bulk ≤ 16777216) : FnU Ω Try.prog gl 43 [.raw (.func (.yield lq) #[] #[]), .ptr 4 0] ([(0, .cells [.map 1]), (1, mapOf KI VI (netL l)), (2, .cells [.map 3]), (3, setOf (fun n => AV.int .i64 n) s), (4, .cells (Dc.cells d)), (5, .lp lq (rc none))]) 6 6 (fun r h n => r = .ret (.tup []) ∧ h = [(0, .cells [.map 1]), (1, mapOf KI VI (netL l)), (2, .cells [.map 3]), (3, setOf (fun n => AV.int .i64 n) (foldI stp (stp s 0 d.trailer) d.items)), (4, .cells (Dc.cells d)), (5, .lp lq (rc none))] ∧ n = 6) := by
  have hb : d.bulk = ibulk d.items + d.trailer.bulk := rfl
  have hlen := ibulk_len d.items
  refine FnU.intro Try.func43 rfl rfl (by simp [Try.ntmps43]) ?_ ?_
  · rintro q hp' nx' ⟨rfl, rfl, rfl⟩
    exact ⟨by simp only [↓noTHm_cons, noTHm, ↓noTBm_ints, ↓noTBm_net, noTBm, noTL, noT, noTL_cells, noTL_dcells, Bool.and_self], _, rfl, rfl⟩
  intro B_
  simp only [argEnv, Try.ntmps43, Try.results43]
  refine AWT.seq ?_
  refine AWT.rSC ?_
  refine OpsT.cYU [0, 1, 2, 3, 4, 5] (hY s 0 d.trailer hs allL_top) ?_
  refine OpsT.rn ?_
  refine OpsT.nil ?_
  have hs1 := hI s 0 d.trailer hs allL_top
  refine AWT.c2 ?_ ?_
  · intro h
    simp at h
  · intro _
    refine AWT.skip ?_
    refine AWT.rS ?_
    refine AWT.block ?_
    refine AWT.lk (S := { i : Nat // i ≤ d.items.length }) [0, 11, 12] (fun s_ => [(13, .int .i64 s_.1)]) (fun s_ => [(0, .cells [.map 1]), (1, mapOf KI VI (netL l)), (2, .cells [.map 3]), (3, setOf (fun n => AV.int .i64 n) (foldI stp (stp s 0 d.trailer) (d.items.take s_.1))), (4, .cells (Dc.cells d)), (5, .lp lq (rc none))]) 6 (fun s_ => d.items.length - s_.1) ⟨0, Nat.zero_le _⟩ ?_ ?_
    · refine St.le.vx [0, 1, 2, 3, 4, 5] (hpre := (by decide : ∀ i, i < 6 → nth [0, 1, 2, 3, 4, 5] i = some i)) ?_
      simp [foldI]
    rintro ⟨i, hi⟩
    try dsimp only at hi
    have hsi : I (foldI stp (stp s 0 d.trailer) (d.items.take i)) := foldI_inv hI hs1 i
    refine AWT.rS ?_
    refine AWT.seq ?_
    refine AWT.c2 ?_ ?_
    · intro h14
      have hi2 : i < d.items.length := by first | exact h14 | omega | simpa using h14
      refine AWT.skip ?_
      refine AWT.seq ?_
      refine AWT.block ?_
      refine AWT.rS ?_
      refine AWT.rSC ?_
      refine OpsT.cYU [0, 1, 2, 3, 4, 5] (hY _ (d.items.getD i Itm.zero).num (d.items.getD i Itm.zero).obj hsi (allL_mem hi2)) ?_
      refine OpsT.rn ?_
      refine OpsT.nil ?_
      refine AWT.c2 ?_ ?_
      · intro h
        simp at h
      · intro _
        refine AWT.skip ?_
        refine AWT.rL ?_
        refine ⟨⟨i + 1, by omega⟩, ?_, ?_⟩
        · refine St.le.vx [0, 1, 2, 3, 4, 5] (hpre := (by decide : ∀ i, i < 6 → nth [0, 1, 2, 3, 4, 5] i = some i)) ?_
          rw [foldI_succ hi2]
        · simp only []; omega
    · intro h14
      refine AWT.exit ?_
      obtain rfl : i = d.items.length := by omega
      rw [List.take_length]
      refine wk ?_
      all_goals first | contradiction | rfl | (simp; done) | (simp; omega)

end Go.Proofs
