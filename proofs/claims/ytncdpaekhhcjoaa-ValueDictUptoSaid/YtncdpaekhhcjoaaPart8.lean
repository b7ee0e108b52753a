/- A part of the proof of a law of the seat: no condition of its own. -/
import Derived.Test.YtncdpaekhhcjoaaPart7
namespace Go.Proofs
open Go Aw
set_option linter.unusedSimpArgs false
set_option linter.unusedVariables false
set_option maxRecDepth 100000
set_option maxHeartbeats 4000000

theorem c_cmp_isNaN_int (gl : List (Nat × AV)) (n : Int) : FnP Try.prog (gl) 136 [.int .i64 n] fun r => r = .ret (.bool false) := by
  refine FnP.intro Try.func136 rfl rfl (by simp [Try.ntmps136]) ?_
  simp only [argEnv, Try.ntmps136, Try.results136]
  refine AW.rS ?_
  refine AW.rS ?_
  refine AW.rt ?_
  all_goals first | contradiction | rfl | (simp; done) | (simp; omega)
theorem c_cmp_Compare_int (gl : List (Nat × AV)) (x y : Int) : FnP Try.prog (gl) 106 [.int .i64 x, .int .i64 y] fun r => r = .ret (.int .i64 (cmpI x y)) := by
  refine FnP.intro Try.func106 rfl rfl (by simp [Try.ntmps106]) ?_
  simp only [argEnv, Try.ntmps106, Try.results106]
  refine AW.rS ?_
  refine AW.rSC ?_
  refine awOps.cons (awGuard.c1 (c_cmp_isNaN_int _ x) ?_)
  refine awOps.rn ?_
  refine AW.rSC ?_
  refine awOps.cons (awGuard.c1 (c_cmp_isNaN_int _ y) ?_)
  refine awOps.rn ?_
  refine AW.seq ?_
  refine AW.rS ?_
  refine AW.c2 ?_ ?_
  · intro h10
    refine AW.seq ?_
    refine AW.rS ?_
    refine AW.c2 ?_ ?_
    · intro h13
      refine AW.rS ?_
      refine AW.rt ?_
      all_goals first | contradiction | rfl | (simp; done) | (simp; omega)
    · intro h13
      refine AW.skip ?_
      refine AW.rS ?_
      refine AW.rt ?_
      all_goals first | contradiction | rfl | (simp; done) | (simp; omega)
  · intro h10
    refine AW.skip ?_
    refine AW.seq ?_
    refine AW.rS ?_
    refine AW.c2 ?_ ?_
    · intro h24
      refine AW.rS ?_
      refine AW.rt ?_
      all_goals first | contradiction | rfl | (simp; done) | (simp; omega)
    · intro h24
      refine AW.skip ?_
      refine AW.seq ?_
      refine AW.rS ?_
      refine AW.c2 ?_ ?_
      · intro h31
        refine AW.rS ?_
        refine AW.rt ?_
        rw [cmpI, if_pos h31]
      · intro h31
        refine AW.skip ?_
        refine AW.seq ?_
        refine AW.rS ?_
        refine AW.c2 ?_ ?_
        · intro h38
          refine AW.rS ?_
          refine AW.rt ?_
          rw [cmpI, if_neg (by omega), if_pos h38]
        · intro h38
          refine AW.skip ?_
          refine AW.rS ?_
          refine AW.rt ?_
          rw [cmpI, if_neg (by omega), if_neg (by omega)]
theorem c_docs_byNum (gl : List (Nat × AV)) (i : Itm) (n : Int) : FnP Try.prog (gl) 54 [.agg i.cells, .int .i64 n] fun r => r = .ret (.int .i64 (cmpI i.num n)) := by
  refine FnP.intro Try.func54 rfl rfl (by simp [Try.ntmps54]) ?_
  simp only [argEnv, Try.ntmps54, Try.results54]
  refine AW.rS ?_
  refine AW.rSC ?_
  refine awOps.cons (awGuard.c1 (c_cmp_Compare_int _ i.num n) ?_)
  refine awOps.rn ?_
  refine AW.rt ?_
  all_goals first | contradiction | rfl | (simp; done) | (simp; omega)
theorem cmpI_neg {x y : Int} : (cmpI x y < 0) = (x < y) := by
  unfold cmpI
  by_cases h : x < y
  · simp [h]
  · by_cases h' : y < x <;> simp [h, h']
theorem cmpI_zero {x y : Int} : (cmpI x y = 0) = (x = y) := by
  unfold cmpI
  by_cases h : x < y
  · simp [h]; omega
  · by_cases h' : y < x
    · simp [h, h']; omega
    · simp [h, h']; omega
theorem c_BinSearch_Item (gl : List (Nat × AV)) (l : List Itm) (n : Int) (hl : l.length ≤ 16777216 := by first | omega | exact u8_le _ | assumption | (simp; done) | (simp; omega)) (hs : incrN l := by first | omega | exact u8_le _ | assumption | (simp; done) | (simp; omega)) : FnP Try.prog (gl) 53 [.sl (itemsAV l), .int .i64 n, .clos 54 []] fun r => r = .ret (.tup [.int .i64 (iplace l n), .bool (ithere l n)]) := by
  refine FnP.intro Try.func53 rfl rfl (by simp [Try.ntmps53]) ?_
  simp only [argEnv, Try.ntmps53, Try.results53]
  refine AW.rS ?_
  refine AW.rS ?_
  refine AW.rS ?_
  refine AW.seq ?_
  refine AW.block ?_
  refine AW.lk (S := { p : Nat × Nat // p.1 ≤ p.2 ∧ p.2 ≤ l.length ∧ (∀ a, a < p.1 → (l.getD a Itm.zero).num < n) ∧ (∀ a, p.2 ≤ a → a < l.length → n ≤ (l.getD a Itm.zero).num) }) [0, 1, 2, 8] (fun s_ => [(9, .int .i64 s_.1.1), (10, .int .i64 s_.1.2)]) (fun s_ => []) 0 (fun s_ => s_.1.2 - s_.1.1) ⟨(0, l.length), Nat.zero_le _, Nat.le_refl _, fun a h => absurd h (by omega), fun a h h' => absurd h' (by omega)⟩ ?_ ?_
  · refine St.le.vw []
  rintro ⟨⟨i, j⟩, h1, h2, h3, h4⟩
  try dsimp only at h1
  try dsimp only at h2
  try dsimp only at h3
  try dsimp only at h4
  refine AW.seq ?_
  refine AW.rS ?_
  refine AW.c2 ?_ ?_
  · intro h9
    refine AW.skip ?_
    refine AW.block ?_
    refine AW.rS ?_
    refine AW.rSC ?_
    refine awOps.cons (awGuard.c1 (c_docs_byNum _ (l.getD ((i + j) / 2) Itm.zero) n) ?_)
    refine awOps.rn ?_
    refine AW.c2 ?_ ?_
    · intro h16
      rw [cmpI_neg] at h16
      refine AW.rL ?_
      refine ⟨⟨((i + j) / 2 + 1, j), by dsimp only; omega, h2, fun a ha => ibs_lo hs h16 (by omega) (by dsimp only at ha; omega), h4⟩, ?_, ?_⟩
      · refine St.le.vw []
      · simp only []; omega
    · intro h16
      have h16' : n ≤ (l.getD ((i + j) / 2) Itm.zero).num := by have := @cmpI_neg (l.getD ((i + j) / 2) Itm.zero).num n; by_cases hh : (l.getD ((i + j) / 2) Itm.zero).num < n; rw [← this] at hh; omega; omega
      refine AW.rL ?_
      refine ⟨⟨(i, (i + j) / 2), by dsimp only; omega, by dsimp only; omega, h3, fun a ha hb => ibs_hi hs h16' (by dsimp only at ha; omega) hb⟩, ?_, ?_⟩
      · refine St.le.vw []
      · simp only []; omega
  · intro h9
    refine AW.exit ?_
    obtain rfl : i = j := by omega
    have hkp := iplace_eq h2 h3 (fun h => h4 _ (Nat.le_refl _) h)
    by_cases hs22 : i < l.length
    · skip
      refine AW.rSC ?_
      refine awOps.cons (awGuard.cG (fun hg => c_docs_byNum _ (l.getD i Itm.zero) n) ?_)
      refine awOps.rn ?_
      refine AW.rt ?_
      rw [ithere_eq hkp, hkp]
      simp [hs22, cmpI_zero]
    · skip
      refine AW.rSC ?_
      refine awOps.cons (awGuard.gF (.int .i64 0) ?_ ?_)
      · simp [hs22]
      refine awOps.rn ?_
      refine AW.rt ?_
      rw [ithere_eq hkp, hkp]
      simp [hs22, cmpI_zero]
theorem h_BinSearch_Item (gl : List (Nat × AV)) (l : List Itm) (q : Int) (hl : l.length ≤ 16777216 := by first | omega | exact u8_le _ | assumption | (simp; done) | (simp; omega)) (hs : incrN l := by first | omega | exact u8_le _ | assumption | (simp; done) | (simp; omega)) : FnH Try.prog (gl) 53 [.row 0 0 l.length, .int .i64 q, .clos 54 []] ([(0, .row 8 (itemsAV l) true)]) 1 (fun r h n => r = .ret (.tup [.int .i64 (iplace l q), .bool (ithere l q)]) ∧ h = [(0, .row 8 (itemsAV l) true)] ∧ n = 1) := by
  refine FnH.intro Try.func53 rfl rfl (by simp [Try.ntmps53]) ?_
  simp only [argEnv, Try.ntmps53, Try.results53]
  refine AW.rS ?_
  refine AW.rS ?_
  refine AW.rS ?_
  refine AW.seq ?_
  refine AW.block ?_
  refine AW.lk (S := { p : Nat × Nat // p.1 ≤ p.2 ∧ p.2 ≤ l.length ∧ (∀ a, a < p.1 → (l.getD a Itm.zero).num < q) ∧ (∀ a, p.2 ≤ a → a < l.length → q ≤ (l.getD a Itm.zero).num) }) [0, 1, 2, 8] (fun s_ => [(9, .int .i64 s_.1.1), (10, .int .i64 s_.1.2)]) (fun s_ => [(0, .row 8 (itemsAV l) true)]) 1 (fun s_ => s_.1.2 - s_.1.1) ⟨(0, l.length), Nat.zero_le _, Nat.le_refl _, fun a h => absurd h (by omega), fun a h h' => absurd h' (by omega)⟩ ?_ ?_
  · refine St.le.vw [0]
  rintro ⟨⟨i, j⟩, h1, h2, h3, h4⟩
  try dsimp only at h1
  try dsimp only at h2
  try dsimp only at h3
  try dsimp only at h4
  refine AW.seq ?_
  refine AW.rS ?_
  refine AW.c2 ?_ ?_
  · intro h9
    refine AW.skip ?_
    refine AW.block ?_
    refine AW.rS ?_
    refine AW.rSC ?_
    refine awOps.cons (awGuard.c1 (c_docs_byNum _ (l.getD ((i + j) / 2) Itm.zero) q) ?_)
    refine awOps.rn ?_
    refine AW.c2 ?_ ?_
    · intro h16
      rw [cmpI_neg] at h16
      refine AW.rL ?_
      refine ⟨⟨((i + j) / 2 + 1, j), by dsimp only; omega, h2, fun a ha => ibs_lo hs h16 (by omega) (by dsimp only at ha; omega), h4⟩, ?_, ?_⟩
      · refine St.le.vw [0]
      · simp only []; omega
    · intro h16
      have h16' : q ≤ (l.getD ((i + j) / 2) Itm.zero).num := by have := @cmpI_neg (l.getD ((i + j) / 2) Itm.zero).num q; by_cases hh : (l.getD ((i + j) / 2) Itm.zero).num < q; rw [← this] at hh; omega; omega
      refine AW.rL ?_
      refine ⟨⟨(i, (i + j) / 2), by dsimp only; omega, by dsimp only; omega, h3, fun a ha hb => ibs_hi hs h16' (by dsimp only at ha; omega) hb⟩, ?_, ?_⟩
      · refine St.le.vw [0]
      · simp only []; omega
  · intro h9
    refine AW.exit ?_
    obtain rfl : i = j := by omega
    have hkp := iplace_eq h2 h3 (fun h => h4 _ (Nat.le_refl _) h)
    by_cases hs22 : i < l.length
    · skip
      refine AW.rSC ?_
      refine awOps.cons (awGuard.cG (fun hg => c_docs_byNum _ (l.getD i Itm.zero) q) ?_)
      refine awOps.rn ?_
      refine AW.rt ?_
      rw [ithere_eq hkp, hkp]
      simp [hs22, cmpI_zero]
    · skip
      refine AW.rSC ?_
      refine awOps.cons (awGuard.gF (.int .i64 0) ?_ ?_)
      · simp [hs22]
      refine awOps.rn ?_
      refine AW.rt ?_
      rw [ithere_eq hkp, hkp]
      simp [hs22, cmpI_zero]
end Go.Proofs

namespace Go.Proofs
open Go Aw
set_option linter.unusedSimpArgs false
set_option linter.unusedVariables false
set_option maxRecDepth 100000
set_option maxHeartbeats 4000000

theorem c_docs_known (gl : List (Nat × AV))  : FnP Try.prog (gl) 102 [] fun r => r = .ret (.sl (strsAV trailK)) := by
  refine FnP.intro Try.func102 rfl rfl (by simp [Try.ntmps102]) ?_
  simp only [argEnv, Try.ntmps102, Try.results102]
  refine AW.rS ?_
  refine AW.rS ?_
  refine AW.rt ?_
  all_goals first | contradiction | rfl | (simp; done) | (simp; omega)
theorem c_slices_Contains_string_string (gl : List (Nat × AV)) (ks : List (List UInt8)) (k : List UInt8) (h : ks.length ≤ 16777216 := by first | omega | exact u8_le _ | assumption | (simp; done) | (simp; omega)) : FnP Try.prog (gl) 105 [.sl (strsAV ks), .str k] fun r => r = .ret (.bool (decide (0 ≤ kidxI ks k))) := by
  refine FnP.intro Try.func105 rfl rfl (by simp [Try.ntmps105]) ?_
  simp only [argEnv, Try.ntmps105, Try.results105]
  refine AW.rS ?_
  refine AW.rSC ?_
  refine awOps.cons (awGuard.c1 (c_slices_Index_string_string _ ks k) ?_)
  refine awOps.rn ?_
  refine AW.rt ?_
  all_goals first | contradiction | rfl | (simp; done) | (simp; omega)
theorem c_docs_trail (gl : List (Nat × AV)) (d : Dc) (h : d.bulk ≤ 16777216 := by first | omega | exact u8_le _ | assumption | (simp; done) | (simp; omega)) : FnP Try.prog (gl) 52 [.agg d.cells] fun r => r = .ret (.int .i64 (trailE d)) := by
  refine FnP.intro Try.func52 rfl rfl (by simp [Try.ntmps52]) ?_
  simp only [argEnv, Try.ntmps52, Try.results52]
  have h0 := h
  simp only [Dc.bulk] at h
  have hkb := Pob.bulk_eq d.trailer
  have hrb := get_bulk d.trailer rootK
  refine AW.rS ?_
  refine AW.seq ?_
  refine AW.rSC ?_
  refine awOps.cons (awGuard.c1 (c_value_Check _ d.trailer) ?_)
  refine awOps.rn ?_
  refine AW.rS ?_
  refine AW.c2 ?_ ?_
  · intro h7
    refine AW.rS ?_
    refine AW.rt ?_
    rw [trail_bad h7]
  · intro h7
    refine AW.skip ?_
    refine AW.seq ?_
    refine AW.rS ?_
    refine AW.c2 ?_ ?_
    · intro h14
      refine AW.rS ?_
      refine AW.rt ?_
      rw [trail_kind h7 h14]
    · intro h14
      refine AW.skip ?_
      refine AW.seq ?_
      refine AW.rS ?_
      refine AW.block ?_
      refine AW.lk (S := { i : Nat // i ≤ d.trailer.keys.length ∧ ∀ j, j < i → 0 ≤ kidxI trailK (d.trailer.keys.getD j []) }) [1, 20, 21] (fun s_ => [(22, .int .i64 s_.1)]) (fun s_ => [(0, .cells d.cells)]) 1 (fun s_ => d.trailer.keys.length - s_.1) ⟨0, Nat.zero_le _, fun j h => absurd h (by omega)⟩ ?_ ?_
      · refine St.le.vw [0]
      rintro ⟨i, hi, hs⟩
      try dsimp only at hi
      try dsimp only at hs
      refine AW.rS ?_
      refine AW.seq ?_
      refine AW.c2 ?_ ?_
      · intro h25
        refine AW.skip ?_
        refine AW.seq ?_
        refine AW.block ?_
        refine AW.rS ?_
        refine AW.rSC ?_
        refine awOps.cons (awGuard.c1 (c_docs_known ..) ?_)
        refine awOps.rn ?_
        refine awOps.cons (awGuard.c1 (c_slices_Contains_string_string _ trailK (d.trailer.keys.getD i []) (by decide)) ?_)
        refine awOps.rn ?_
        refine AW.c2 ?_ ?_
        · intro h35
          refine AW.rS ?_
          refine AW.rt ?_
          rw [trail_key h7 h14 (fun hh => by have := hh i h25; omega)]
        · intro h35
          refine AW.skip ?_
          refine AW.rL ?_
          refine ⟨⟨i + 1, by omega, fun j hj => (Nat.lt_or_ge j i).elim (hs j) (fun h => (show j = i by omega) ▸ h35)⟩, ?_, ?_⟩
          · refine St.le.vw [0]
          · simp only []; omega
      · intro h25
        refine AW.exit ?_
        have htk : trailOk d.trailer.keys := fun j hj => hs j (by omega)
        refine AW.rSC ?_
        refine awOps.cons (awGuard.c1 (c_value_Get _ d.trailer rootK) ?_)
        refine awOps.rn ?_
        refine AW.seq ?_
        refine AW.rSC ?_
        refine awOps.cons (awGuard.cG (fun hg => c_docs_Follow _ d (getO d.trailer rootK) h0 (by omega)) ?_)
        refine awOps.rn ?_
        refine AW.c2 ?_ ?_
        · intro h50
          refine AW.rS ?_
          refine AW.rt ?_
          rw [trail_root h7 h14 htk, if_pos h50]
        · intro h50
          refine AW.skip ?_
          refine AW.rS ?_
          refine AW.rt ?_
          rw [trail_root h7 h14 htk, if_neg (by simp [h50])]
theorem c_docs_Check (gl : List (Nat × AV)) (d : Dc) (h : d.bulk ≤ 16777216 := by first | omega | exact u8_le _ | assumption | (simp; done) | (simp; omega)) : FnP Try.prog (gl) 14 [.agg d.cells] fun r => r = .ret (.int .i64 (docE d)) := by
  refine FnP.intro Try.func14 rfl rfl (by simp [Try.ntmps14]) ?_
  simp only [argEnv, Try.ntmps14, Try.results14]
  refine AW.rS ?_
  refine AW.seq ?_
  refine AW.rSC ?_
  refine awOps.cons (awGuard.c1 (c_docs_items _ d.items (by simp only [Dc.bulk] at h; omega)) ?_)
  refine awOps.rn ?_
  refine AW.rS ?_
  refine AW.c2 ?_ ?_
  · intro h7
    refine AW.rS ?_
    refine AW.rt ?_
    rw [doc_bad h7]
  · intro h7
    refine AW.skip ?_
    refine AW.rSC ?_
    refine awOps.cons (awGuard.c1 (c_docs_trail _ d h) ?_)
    refine awOps.rn ?_
    refine AW.rt ?_
    rw [doc_trail h7]
theorem c_docs_Get_1 (gl : List (Nat × AV)) (i : Itm) (n : Int) : FnP Try.prog (gl) 68 [.agg i.cells, .tptr [.int .i64 n]] fun r => r = .ret (.bool (decide (i.num = n))) := by
  refine FnP.intro Try.func68 rfl rfl (by simp [Try.ntmps68]) ?_
  simp only [argEnv, Try.ntmps68, Try.results68]
  refine AW.rS ?_
  refine AW.rS ?_
  refine AW.rt ?_
  all_goals first | contradiction | rfl | (simp; done) | (simp; omega)
theorem c_IndexFunc_Get (gl : List (Nat × AV)) (l : List Itm) (n : Int) (hl : l.length ≤ 16777216 := by first | omega | exact u8_le _ | assumption | (simp; done) | (simp; omega)) : FnP Try.prog (gl) 64 [.sl (itemsAV l), .clos 68 [.tptr [.int .i64 n]]] fun r => r = .ret (.int .i64 (iidxI l n)) := by
  refine FnP.intro Try.func64 rfl rfl (by simp [Try.ntmps64]) ?_
  simp only [argEnv, Try.ntmps64, Try.results64]
  refine AW.rS ?_
  refine AW.seq ?_
  refine AW.rS ?_
  refine AW.block ?_
  refine AW.lk (S := { i : Nat // i ≤ l.length ∧ ∀ j, j < i → (l.getD j Itm.zero).num ≠ n }) [0, 1, 7] (fun s_ => [(8, .int .i64 s_.1)]) (fun s_ => []) 0 (fun s_ => l.length - s_.1) ⟨0, Nat.zero_le _, fun j h => absurd h (by omega)⟩ ?_ ?_
  · refine St.le.vw []
  rintro ⟨i, hi, hs⟩
  try dsimp only at hi
  try dsimp only at hs
  refine AW.rS ?_
  refine AW.seq ?_
  refine AW.c2 ?_ ?_
  · intro h8
    refine AW.skip ?_
    refine AW.seq ?_
    refine AW.block ?_
    refine AW.rS ?_
    refine AW.rSC ?_
    refine awOps.cons (awGuard.c1 (c_docs_Get_1 _ (l.getD i Itm.zero) n) ?_)
    refine awOps.rn ?_
    refine AW.c2 ?_ ?_
    · intro h16
      refine AW.rS ?_
      refine AW.rt ?_
      rw [iidx_hit h8 hs h16]
    · intro h16
      refine AW.skip ?_
      refine AW.rL ?_
      refine ⟨⟨i + 1, by omega, fun j hj => (Nat.lt_or_ge j i).elim (hs j) (fun h => (show j = i by omega) ▸ h16)⟩, ?_, ?_⟩
      · refine St.le.vw []
      · simp only []; omega
  · intro h8
    refine AW.exit ?_
    refine AW.rS ?_
    refine AW.rt ?_
    rw [iidx_miss (fun j hj => hs j (by omega))]
theorem c_docs_Get (gl : List (Nat × AV)) (d : Dc) (n : Int) (h : d.bulk ≤ 16777216 := by first | omega | exact u8_le _ | assumption | (simp; done) | (simp; omega)) : FnP Try.prog (gl) 23 [.agg d.cells, .int .i64 n] fun r => r = .ret (.tup [.agg ((lookI d.items n).getD Itm.zero).cells, .bool (lookI d.items n).isSome]) := by
  refine FnP.intro Try.func23 rfl rfl (by simp [Try.ntmps23]) ?_
  simp only [argEnv, Try.ntmps23, Try.results23]
  simp only [Dc.bulk] at h
  have hlen := ibulk_len d.items
  have hlt := iidxI_lt (l := d.items) (n := n)
  refine AW.rS ?_
  refine AW.rSC ?_
  refine awOps.cons (awGuard.c1 (c_IndexFunc_Get _ d.items n) ?_)
  refine awOps.rn ?_
  refine AW.seq ?_
  refine AW.rS ?_
  refine AW.c2 ?_ ?_
  · intro h7
    refine AW.rS ?_
    refine AW.rt ?_
    rw [look_miss h7]; rfl
  · intro h7
    refine AW.skip ?_
    have hgb := ibulk_get (l := d.items) (i := (iidxI d.items n).toNat) (by omega)
    refine AW.rSC ?_
    refine awOps.cons (awGuard.c1 (c_docs_copied _ (d.items.getD (iidxI d.items n).toNat Itm.zero)) ?_)
    refine awOps.rn ?_
    refine AW.rt ?_
    rw [look_hit (by omega)]; rfl
theorem c_docs_Path (gl : List (Nat × AV)) (d : Dc) (o : Pob) (ks : List (List UInt8)) (h : d.bulk ≤ 16777216 := by first | omega | exact u8_le _ | assumption | (simp; done) | (simp; omega)) (ho : o.bulk ≤ 16777216 := by first | omega | exact u8_le _ | assumption | (simp; done) | (simp; omega)) (hk : ks.length ≤ 16777216 := by first | omega | exact u8_le _ | assumption | (simp; done) | (simp; omega)) : FnP Try.prog (gl) 19 [.agg d.cells, .agg o.cells, .sl (strsAV ks)] fun r => r = .ret (.agg (pathO d o ks).cells) := by
  refine FnP.intro Try.func19 rfl rfl (by simp [Try.ntmps19]) ?_
  simp only [argEnv, Try.ntmps19, Try.results19]
  refine AW.rS ?_
  refine AW.rSC ?_
  refine awOps.cons (awGuard.c1 (c_docs_Follow _ d o) ?_)
  refine awOps.rn ?_
  refine AW.seq ?_
  refine AW.rS ?_
  refine AW.block ?_
  refine AW.lk (S := { p : Nat × Pob // p.1 ≤ ks.length ∧ p.2.bulk ≤ 16777216 ∧ pathO d o ks = pathL d p.2 (ks.drop p.1) }) [3, 4, 6, 14, 15] (fun s_ => [(16, .int .i64 s_.1.1)]) (fun s_ => [(0, .cells d.cells), (1, .cells s_.1.2.cells), (2, .cells [.int .i64 0, .int .i64 0, .int .i64 0, .str [], .raw (.slice none 0 0), .raw (.slice none 0 0)])]) 3 (fun s_ => ks.length - s_.1.1) ⟨(0, followO d o), Nat.zero_le _, follow_bulk h ho, by simp [pathO]⟩ ?_ ?_
  · refine St.le.vw [0, 1, 2]
  rintro ⟨⟨i, q⟩, hi, hq, hs⟩
  try dsimp only at hi
  try dsimp only at hq
  try dsimp only at hs
  refine AW.rS ?_
  refine AW.seq ?_
  refine AW.c2 ?_ ?_
  · intro h11
    have hgq := get_bulk q (ks.getD i [])
    refine AW.skip ?_
    refine AW.seq ?_
    refine AW.block ?_
    refine AW.rS ?_
    refine AW.rSC ?_
    refine awOps.cons (awGuard.c1 (c_value_Get _ q (ks.getD i [])) ?_)
    refine awOps.rn ?_
    refine AW.seq ?_
    refine AW.rS ?_
    refine AW.c2 ?_ ?_
    · intro h21
      refine AW.rS ?_
      refine AW.rt ?_
      rw [hs, pathL_drop h11, if_pos h21]; rfl
    · intro h21
      refine AW.skip ?_
      refine AW.rLC ?_
      refine awOps.cons (awGuard.c1 (c_docs_Follow _ d (getO q (ks.getD i [])) h (by omega)) ?_)
      refine awOps.rn ?_
      refine AW.rL ?_
      refine ⟨⟨(i + 1, followO d (getO q (ks.getD i []))), by dsimp only; omega, follow_bulk h (by omega), by rw [hs, pathL_drop h11, if_neg (by rw [h21]; simp)]⟩, ?_, ?_⟩
      · refine St.le.vw [0, 1, 2]
      · simp only []; omega
  · intro h11
    refine AW.exit ?_
    refine AW.rS ?_
    refine AW.rt ?_
    rw [hs, pathL_end (by omega)]
end Go.Proofs

namespace Go.Proofs
open Go Aw
set_option linter.unusedSimpArgs false
set_option linter.unusedVariables false
set_option maxRecDepth 100000
set_option maxHeartbeats 1000000

theorem h_docs_fresh (gl : List (Nat × AV)) (d : Dc) (h : d.bulk ≤ 16777216 := by first | omega | exact u8_le _ | assumption | (simp; done) | (simp; omega)) : FnH Try.prog (gl) 57 [.agg d.cells] ([]) 0 (fun r h n => r = .ret (.agg [.row 1 0 d.items.length, .int .i64 d.trailer.kind, .int .i64 d.trailer.num, .int .i64 d.trailer.gen, .str d.trailer.str, .sl (strsAV d.trailer.keys), .sl (objsAV d.trailer.kids)]) ∧ h = [(0, .cells [.row 1 0 d.items.length, .int .i64 d.trailer.kind, .int .i64 d.trailer.num, .int .i64 d.trailer.gen, .str d.trailer.str, .sl (strsAV d.trailer.keys), .sl (objsAV d.trailer.kids)]), (1, .row 8 (itemsAV d.items) true)] ∧ n = 2) := by
  refine FnH.intro Try.func57 rfl rfl (by simp [Try.ntmps57]) ?_
  simp only [argEnv, Try.ntmps57, Try.results57]
  simp only [Dc.bulk] at h
  have hlen := ibulk_len d.items
  refine AW.rS ?_
  refine AW.rSC ?_
  refine awOps.cons (awGuard.c1 (c_value_Clone _ d.trailer) ?_)
  refine awOps.rn ?_
  refine AW.seq ?_
  refine AW.rS ?_
  refine AW.block ?_
  refine AW.pre (St.le.nilcell 2 0 8 (by (simp only [go_sem, seval]; try (simp (disch := omega) only [wrap_i64, wrap_u8, wrap_u64, tdiv_nn, tmod_nn, Int.toNat_natCast_add_one, toNat_sub1, Int.toNat_sub, Int.toNat_natCast, intsAV_getD, strsAV_getD, objsAV_getD, itemsAV_getD, intsAV_out, strsAV_out, objsAV_out, itemsAV_out, fillO_length, fillO_set]; try (simp only [go_sem, seval]; try (simp (disch := omega) only [wrap_i64, wrap_u8, wrap_u64, tdiv_nn, tmod_nn, Int.toNat_natCast_add_one, toNat_sub1, Int.toNat_sub, Int.toNat_natCast, intsAV_getD, strsAV_getD, objsAV_getD, itemsAV_getD, intsAV_out, strsAV_out, objsAV_out, itemsAV_out, fillO_length, fillO_set]; try simp only [go_sem, seval])))); exact rfl) (by exact rfl)) ?_
  refine wk ?_
  refine AW.lk (S := { i : Nat // i ≤ d.items.length }) [2, 3, 11, 12] (fun s_ => [(13, .int .i64 s_.1)]) (fun s_ => [(0, .cells d.cells), (1, .cells [.raw (.slice none 0 0), .int .i64 0, .int .i64 0, .int .i64 0, .str [], .raw (.slice none 0 0), .raw (.slice none 0 0)]), (2, .cells [.row 3 0 s_.1, .int .i64 d.trailer.kind, .int .i64 d.trailer.num, .int .i64 d.trailer.gen, .str d.trailer.str, .sl (strsAV d.trailer.keys), .sl (objsAV d.trailer.kids)]), (3, .row 8 (itemsAV (d.items.take s_.1)) true)]) 4 (fun s_ => d.items.length - s_.1) ⟨0, Nat.zero_le _⟩ ?_ ?_
  · refine St.le.vw [0, 1, 2, 3]
  rintro ⟨i, hi⟩
  try dsimp only at hi
  refine AW.rS ?_
  refine AW.seq ?_
  refine AW.c2 ?_ ?_
  · intro h11
    have hgb := ibulk_get (l := d.items) (i := i) (by omega)
    refine AW.skip ?_
    refine AW.seq ?_
    refine AW.block ?_
    refine AW.rS ?_
    refine AW.fL [0, 1, 2, 3, 4] [(5, 2), (6, 2), (7, 2)] ?_
    refine awFun.rn ?_
    refine awFun.c1 [19] (c_docs_copied _ (d.items.getD i Itm.zero)) ?_
    refine awFun.rn ?_
    refine awFun.bs [20] ?_
    refine awFun.rn ?_
    rw [Aw.awFun_nil]
    refine awPlan.rn ?_
    refine AW.rL ?_
    refine ⟨⟨i + 1, by omega⟩, ?_, ?_⟩
    · refine St.le.vx [0, 1, 2, 5] ?_
      have hsn := itemsAV_snoc' d.items i h11; rw [List.take_of_length_le (by rw [itemsAV_length, List.length_take]; omega), hsn]
    · simp only []; omega
  · intro h11
    refine AW.exit ?_
    obtain rfl : i = d.items.length := by omega
    rw [List.take_length]
    refine AW.rS ?_
    refine AW.vw [1, 3] [(2, .ptr 0 0)] [(0, .cells [.row 1 0 d.items.length, .int .i64 d.trailer.kind, .int .i64 d.trailer.num, .int .i64 d.trailer.gen, .str d.trailer.str, .sl (strsAV d.trailer.keys), .sl (objsAV d.trailer.kids)]), (1, .row 8 (itemsAV d.items) true)] ?_
    refine AW.rt ?_
    all_goals first | contradiction | rfl | (simp; done) | (simp; omega)
theorem h_docs_take (gl : List (Nat × AV)) (l : List Itm) (q : Int) (hl : l.length ≤ 16777216 := by first | omega | exact u8_le _ | assumption | (simp; done) | (simp; omega)) (hs : incrN l := by first | omega | exact u8_le _ | assumption | (simp; done) | (simp; omega)) : FnH Try.prog (gl) 58 [.row 0 0 l.length, .int .i64 q] ([(0, .row 8 (itemsAV l) true)]) 1 (fun r h n => r = .ret (.tup [.row 0 0 (takeI l q).length, .bool (ithere l q)]) ∧ h = [(0, .row 8 (itemsAV (takeI l q)) true)] ∧ n = 1) := by
  refine FnH.intro Try.func58 rfl rfl (by simp [Try.ntmps58]) ?_
  simp only [argEnv, Try.ntmps58, Try.results58]
  refine AW.rS ?_
  refine AW.rSC ?_
  refine awOps.cons (awGuard.cH [0] (h_BinSearch_Item _ l q) ?_)
  refine awOps.rn ?_
  refine AW.seq ?_
  refine AW.rS ?_
  refine AW.c2 ?_ ?_
  · intro h7
    refine AW.rS ?_
    refine AW.rt ?_
    simp [takeI, h7]
  · intro h7
    refine AW.skip ?_
    have hlt := ithere_lt h7
    refine AW.rSC ?_
    refine awOps.cons (awGuard.cH [0] (h_Del_itm _ l (iplace l q) (ithere_lt h7)) ?_)
    refine awOps.rn ?_
    refine AW.rt ?_
    have e : iplace l q + (l.length - (iplace l q + 1)) = (delAt l (iplace l q)).length := by rw [delAt_length hlt]; omega
    rw [e]
    simp [takeI, h7]
theorem h_docs_lay (gl : List (Nat × AV)) (l : List Itm) (i : Itm) (hl : l.length ≤ 16777216 := by first | omega | exact u8_le _ | assumption | (simp; done) | (simp; omega)) (hb : i.obj.bulk ≤ 16777216 := by first | omega | exact u8_le _ | assumption | (simp; done) | (simp; omega)) (hs : incrN l := by first | omega | exact u8_le _ | assumption | (simp; done) | (simp; omega)) : FnH Try.prog (gl) 60 [.row 0 0 l.length, .agg i.cells] ([(0, .row 8 (itemsAV l) true)]) 1 (fun r h n => r = .ret (.row 1 0 (layI l i).length) ∧ h = [(1, .row 8 (itemsAV (layI l i)) true)] ∧ n = 2) := by
  refine FnH.intro Try.func60 rfl rfl (by simp [Try.ntmps60]) ?_
  simp only [argEnv, Try.ntmps60, Try.results60]
  refine AW.rS ?_
  refine AW.rSC ?_
  refine awOps.cons (awGuard.cH [0] (h_BinSearch_Item _ l i.num) ?_)
  refine awOps.rn ?_
  refine AW.seq ?_
  refine AW.rS ?_
  refine AW.c2 ?_ ?_
  · intro h7
    have hlt := ithere_lt h7
    have hset : layI l i = l.set (iplace l i.num) i := by rw [layI, if_pos h7]
    refine AW.rSC ?_
    refine awOps.cons (awGuard.c1 (c_docs_copied _ i) ?_)
    refine awOps.rn ?_
    refine AW.rS ?_
    rw [hset]
    refine AW.rnm 4 ?_
    refine wk ?_
    refine AW.vw [0, 2] [(4, .row 1 0 l.length)] [(1, .row 8 ((itemsAV l).set (iplace l i.num) i.cells) true)] ?_
    refine AW.rt ?_
    rw [itemsAV_set', List.length_set]
    exact ⟨rfl, rfl⟩
  · intro h7
    refine AW.skip ?_
    refine AW.rSC ?_
    refine awOps.cons (awGuard.c1 (c_docs_copied _ i) ?_)
    refine awOps.rn ?_
    refine awOps.cons (awGuard.cH [0, 2] (h_Ins_itm _ l i (iplace l i.num) (iplace_le _ _)) ?_)
    refine awOps.rn ?_
    have hins : layI l i = insAt l (iplace l i.num) i := by rw [layI, if_neg (by simp [h7])]
    rw [hins]
    refine AW.vw [0, 3] [(4, .row 1 0 (l.length + 1))] [(1, .row 8 (itemsAV (insAt l (iplace l i.num) i)) true)] ?_
    refine AW.rt ?_
    all_goals simp [insAt_length]
theorem c_docs_told (gl : List (Nat × AV)) (d : Dc) (h : d.bulk ≤ 16777216 := by first | omega | exact u8_le _ | assumption | (simp; done) | (simp; omega)) : FnP Try.prog (gl) 61 [.agg d.cells] fun r => r = .ret (.tup [.agg (if docE d = 0 then d else Dc.zero).cells, .int .i64 (docE d)]) := by
  refine FnP.intro Try.func61 rfl rfl (by simp [Try.ntmps61]) ?_
  simp only [argEnv, Try.ntmps61, Try.results61]
  refine AW.rS ?_
  refine AW.seq ?_
  refine AW.rSC ?_
  refine awOps.cons (awGuard.c1 (c_docs_Check _ d) ?_)
  refine awOps.rn ?_
  refine AW.rS ?_
  refine AW.c2 ?_ ?_
  · intro h7
    refine AW.rS ?_
    refine AW.rt ?_
    rw [if_neg h7]; rfl
  · intro h7
    refine AW.skip ?_
    refine AW.rS ?_
    refine AW.rt ?_
    rw [if_pos h7, h7]
end Go.Proofs

namespace Go.Proofs
open Go Aw
set_option linter.unusedSimpArgs false
set_option linter.unusedVariables false
set_option maxRecDepth 100000
set_option maxHeartbeats 1000000

theorem c_docs_Put (gl : List (Nat × AV)) (d : Dc) (i : Itm) (h : d.bulk + i.obj.bulk ≤ 16777000 := by first | omega | exact u8_le _ | assumption | (simp; done) | (simp; omega)) : FnP Try.prog (gl) 22 [.agg d.cells, .agg i.cells] fun r => r = .ret (.tup [.agg (putO d i).cells, .int .i64 (putE d i)]) := by
  refine FnP.intro Try.func22 rfl rfl (by simp [Try.ntmps22]) ?_
  simp only [argEnv, Try.ntmps22, Try.results22]
  have hlen := ibulk_len d.items
  have hlb := layI_bulk d.items i
  have hdb : d.bulk = ibulk d.items + d.trailer.bulk := rfl
  refine AW.rS ?_
  refine AW.seq ?_
  refine AW.rSC ?_
  refine awOps.cons (awGuard.c1 (c_docs_Check _ d (by omega)) ?_)
  refine awOps.rn ?_
  refine AW.rS ?_
  refine AW.c2 ?_ ?_
  · intro h7
    refine AW.rS ?_
    refine AW.rt ?_
    rw [(put_doc h7).1, (put_doc h7).2]; rfl
  · intro h7
    refine AW.skip ?_
    refine AW.seq ?_
    refine AW.rSC ?_
    refine awOps.cons (awGuard.c1 (c_docs_alone _ i (by omega)) ?_)
    refine awOps.rn ?_
    refine AW.rS ?_
    refine AW.c2 ?_ ?_
    · intro h17
      refine AW.rS ?_
      refine AW.rt ?_
      rw [(put_alone h7 h17).1, (put_alone h7 h17).2]; rfl
    · intro h17
      refine AW.skip ?_
      have hs := doc_incr h7
      refine AW.rSC ?_
      refine awOps.cons (awGuard.cH [] (h_docs_fresh _ d (by omega)) ?_)
      refine awOps.rn ?_
      refine AW.rSC ?_
      refine awOps.cons (awGuard.cH [4] (h_docs_lay _ d.items i (by omega) (by omega) hs) ?_)
      refine awOps.rn ?_
      refine AW.rSC ?_
      refine awOps.cons (awGuard.c1 (c_docs_told _ ⟨layI d.items i, d.trailer⟩ (by simp only [Dc.bulk]; omega)) ?_)
      refine awOps.rn ?_
      refine AW.rt ?_
      rw [(put_ok h7 h17).1, (put_ok h7 h17).2]
theorem c_docs_Drop (gl : List (Nat × AV)) (d : Dc) (q : Int) (h : d.bulk ≤ 16777000 := by first | omega | exact u8_le _ | assumption | (simp; done) | (simp; omega)) : FnP Try.prog (gl) 25 [.agg d.cells, .int .i64 q] fun r => r = .ret (.tup [.agg (dropD d q).cells, .int .i64 (dropE d q)]) := by
  refine FnP.intro Try.func25 rfl rfl (by simp [Try.ntmps25]) ?_
  simp only [argEnv, Try.ntmps25, Try.results25]
  have hlen := ibulk_len d.items
  have hlb := takeI_bulk d.items q
  have hdb : d.bulk = ibulk d.items + d.trailer.bulk := rfl
  refine AW.rS ?_
  refine AW.seq ?_
  refine AW.rSC ?_
  refine awOps.cons (awGuard.c1 (c_docs_Check _ d (by omega)) ?_)
  refine awOps.rn ?_
  refine AW.rS ?_
  refine AW.c2 ?_ ?_
  · intro h7
    refine AW.rS ?_
    refine AW.rt ?_
    rw [(drop_doc h7).1, (drop_doc h7).2]; rfl
  · intro h7
    refine AW.skip ?_
    have hs := doc_incr h7
    refine AW.rSC ?_
    refine awOps.cons (awGuard.cH [] (h_docs_fresh _ d (by omega)) ?_)
    refine awOps.rn ?_
    refine AW.rSC ?_
    refine awOps.cons (awGuard.cH [3] (h_docs_take _ d.items q (by omega) hs) ?_)
    refine awOps.rn ?_
    refine AW.seq ?_
    refine AW.rS ?_
    refine AW.c2 ?_ ?_
    · intro h20
      refine AW.rS ?_
      refine AW.rt ?_
      rw [(drop_none h7 h20).1, (drop_none h7 h20).2]; rfl
    · intro h20
      refine AW.skip ?_
      refine AW.rS ?_
      refine AW.rSC ?_
      refine awOps.cons (awGuard.c1 (c_docs_told _ ⟨takeI d.items q, d.trailer⟩ (by simp only [Dc.bulk]; omega)) ?_)
      refine awOps.rn ?_
      refine AW.rt ?_
      rw [(drop_ok h7 h20).1, (drop_ok h7 h20).2]
theorem c_docs_Free (gl : List (Nat × AV)) (d : Dc) (h : d.bulk ≤ 16777000 := by first | omega | exact u8_le _ | assumption | (simp; done) | (simp; omega)) : FnP Try.prog (gl) 26 [.agg d.cells] fun r => r = .ret (.tup [.int .i64 (freeN d), .int .i64 (freeE d)]) := by
  refine FnP.intro Try.func26 rfl rfl (by simp [Try.ntmps26]) ?_
  simp only [argEnv, Try.ntmps26, Try.results26]
  have hlen := ibulk_len d.items
  have hdb : d.bulk = ibulk d.items + d.trailer.bulk := rfl
  refine AW.rS ?_
  refine AW.seq ?_
  refine AW.rSC ?_
  refine awOps.cons (awGuard.c1 (c_docs_Check _ d (by omega)) ?_)
  refine awOps.rn ?_
  refine AW.rS ?_
  refine AW.c2 ?_ ?_
  · intro h7
    refine AW.rS ?_
    refine AW.rt ?_
    rw [(free_doc h7).1, (free_doc h7).2]
  · intro h7
    refine AW.skip ?_
    refine AW.rS ?_
    refine AW.seq ?_
    refine AW.rS ?_
    refine AW.rS ?_
    refine AW.c2 ?_ ?_
    · intro h16
      have hnb := ((items_iff.1 (docE_items h7)).2 _ (getD_mem (l := d.items) (i := d.items.length - 1) (by omega))).1
      simp only [numsB, Bool.and_eq_true, decide_eq_true_eq] at hnb
      have hln : lastN d.items = (d.items.getD (d.items.length - 1) Itm.zero).num + 1 := by rw [lastN, if_neg (by omega)]
      refine AW.rL ?_
      refine AW.seq ?_
      refine AW.rS ?_
      refine AW.c2 ?_ ?_
      · intro h20
        refine AW.rS ?_
        refine AW.rt ?_
        rw [(free_full h7 (by omega)).1, (free_full h7 (by omega)).2]
      · intro h20
        refine AW.skip ?_
        refine AW.rS ?_
        refine AW.rt ?_
        rw [(free_ok h7 (by omega)).1, (free_ok h7 (by omega)).2, hln]
    · intro h16
      have hln : lastN d.items = 1 := by rw [lastN, if_pos (by omega)]
      refine AW.skip ?_
      refine AW.seq ?_
      refine AW.rS ?_
      refine AW.c2 ?_ ?_
      · intro h31
        simp at h31
      · intro h31
        refine AW.skip ?_
        refine AW.rS ?_
        refine AW.rt ?_
        rw [(free_ok h7 (by omega)).1, (free_ok h7 (by omega)).2, hln]
theorem c_docs_Add (gl : List (Nat × AV)) (d : Dc) (o : Pob) (h : d.bulk + o.bulk ≤ 16777000 := by first | omega | exact u8_le _ | assumption | (simp; done) | (simp; omega)) : FnP Try.prog (gl) 27 [.agg d.cells, .agg o.cells] fun r => r = .ret (.tup [.agg (addO d o).cells, .int .i64 (addN d o), .int .i64 (addE d o)]) := by
  refine FnP.intro Try.func27 rfl rfl (by simp [Try.ntmps27]) ?_
  simp only [argEnv, Try.ntmps27, Try.results27]
  refine AW.rS ?_
  refine AW.rSC ?_
  refine awOps.cons (awGuard.c1 (c_docs_Free _ d (by omega)) ?_)
  refine awOps.rn ?_
  refine AW.seq ?_
  refine AW.rS ?_
  refine AW.c2 ?_ ?_
  · intro h7
    refine AW.rS ?_
    refine AW.rt ?_
    rw [(add_free h7).1, (add_free h7).2.1, (add_free h7).2.2]; rfl
  · intro h7
    refine AW.skip ?_
    refine AW.rSC ?_
    refine awOps.cons (awGuard.c1 (c_docs_Put _ d ⟨freeN d, 0, o⟩ (by show d.bulk + o.bulk ≤ _; omega)) ?_)
    refine awOps.rn ?_
    refine AW.seq ?_
    refine AW.rS ?_
    refine AW.c2 ?_ ?_
    · intro h17
      refine AW.rS ?_
      refine AW.rt ?_
      rw [(add_put h7 h17).1, (add_put h7 h17).2.1, (add_put h7 h17).2.2]; rfl
    · intro h17
      refine AW.skip ?_
      refine AW.rS ?_
      refine AW.rt ?_
      rw [(add_ok h7 h17).1, (add_ok h7 h17).2.1, (add_ok h7 h17).2.2]
end Go.Proofs
