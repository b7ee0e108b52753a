/- A part of the proof of a law of the seat: no condition of its own. -/
import Derived.Test.YtncdpaekhhcjoaaGreatPart10
namespace Go.Proofs
open Go Aw
set_option linter.unusedSimpArgs false
set_option linter.unusedVariables false
set_option maxRecDepth 100000
set_option maxHeartbeats 2000000
attribute [local go_sem] take_strsAV drop_strsAV app_strsAV app1_strsAV take_intsAV drop_intsAV app_intsAV app1_intsAV take_objsAV drop_objsAV app_objsAV app1_objsAV

theorem c_foliantref05_Get (gl : List (Nat × AV)) (o : Pob) (key : List UInt8) (h : o.bulk ≤ 16777216) : FnP Tryz.prog (gl) 56 [.agg o.cells, .str key] fun r => r = .ret (.tup [.agg (getO o key).cells, .bool (getB o key)]) := by
  refine FnP.intro Tryz.func56 rfl rfl (by simp [Tryz.ntmps56]) ?_
  simp only [argEnv, Tryz.ntmps56, Tryz.results56]
  have hbe := Pob.bulk_eq o
  refine AW.rS ?_
  refine AW.seq ?_
  refine AW.rS ?_
  refine AW.c2 ?_ ?_
  · intro h4
    refine AW.rS ?_
    refine AW.rt ?_
    have hg := get_unkeyed (o := o) (key := key) (by simp [keyedB, h4.1, h4.2])
    rw [hg.1, hg.2]; rfl
  · intro h4
    refine AW.skip ?_
    refine AW.seq ?_
    refine AW.rS ?_
    refine AW.block ?_
    refine AW.lk (S := { i : Nat // i ≤ o.keys.length ∧ ∀ j, j < i → o.keys.getD j [] ≠ key }) [1, 2, 4, 18, 19] (fun s_ => [(20, .int .i64 s_.1)]) (fun s_ => [(0, .cells o.cells), (1, .cells [.int .i64 0, .int .i64 0, .int .i64 0, .str [], .raw (.slice none 0 0), .raw (.slice none 0 0)])]) 2 (fun s_ => o.keys.length - s_.1) ⟨0, Nat.zero_le _, fun j h => absurd h (by omega)⟩ ?_ ?_
    · refine St.le.vw [0, 1]
    rintro ⟨i, hi, hs⟩
    try dsimp only at hi
    try dsimp only at hs
    refine AW.rS ?_
    refine AW.seq ?_
    refine AW.c2 ?_ ?_
    · intro h15
      refine AW.skip ?_
      refine AW.seq ?_
      refine AW.block ?_
      refine AW.rS ?_
      refine AW.rS ?_
      refine AW.c2 ?_ ?_
      · intro h21
        have hkx := kidx_hit h15 hs h21.symm
        refine AW.seq ?_
        refine AW.rS ?_
        refine AW.c2 ?_ ?_
        · intro h24
          refine AW.rS ?_
          refine AW.rt ?_
          have hg := get_miss (o := o) (key := key) (by rw [hkx]; omega)
          rw [hg.1, hg.2]; rfl
        · intro h24
          refine AW.skip ?_
          refine AW.rS ?_
          refine AW.rt ?_
          have hg := get_hit (o := o) (key := key) (by simp only [keyedB]; simp; omega) (by rw [hkx]; omega)
          rw [hg.1, hg.2, hkx]
          rfl
      · intro h21
        refine AW.skip ?_
        refine AW.rL ?_
        refine ⟨⟨i + 1, by omega, fun j hj => (Nat.lt_or_ge j i).elim (hs j) (fun h => (show j = i by omega) ▸ h21)⟩, ?_, ?_⟩
        · refine St.le.vw [0, 1]
        · simp only []; omega
    · intro h15
      refine AW.exit ?_
      refine AW.rS ?_
      refine AW.rt ?_
      have hg := get_miss (o := o) (key := key) (by rw [kidx_miss (fun j hj => hs j (by omega))]; omega)
      rw [hg.1, hg.2]; rfl
theorem c_ref_lessO (gl : List (Nat × AV)) (o : Pob) (key : List UInt8) (h : o.bulk ≤ 16777000) (hk : keyedB o.kind = true) (hc : chk o 1 = 0) : FnP Tryz.prog gl 121 [.agg o.cells, .str key] fun r => r = .ret (.agg (dropO o key).cells) := by
  rw [← woK_all (key := key) (kvOk_of_chk hc hk) (by simp [dropB, hk, hc])]
  exact c_foliantref05_without gl o key h (kvOk_of_chk hc hk)
theorem c_foliantref05_Drop (gl : List (Nat × AV)) (o : Pob) (key : List UInt8) (h : o.tot ≤ 16777000) : FnP Tryz.prog (gl) 65 [.agg o.cells, .str key] fun r => r = .ret (.agg (dropO o key).cells) := by
  refine FnP.intro Tryz.func65 rfl rfl (by simp [Tryz.ntmps65]) ?_
  simp only [argEnv, Tryz.ntmps65, Tryz.results65]
  have hb := Pob.bulk_tot o
  refine AW.rS ?_
  refine AW.seq ?_
  refine AW.rSC ?_
  refine awOps.cons (awGuard.cG (fun hg => c_foliantref05_Check _ o (by omega)) ?_)
  refine awOps.rn ?_
  refine AW.c2 ?_ ?_
  · intro h6
    refine AW.rS ?_
    refine AW.rt ?_
    rw [dropO_no (by rcases h6 with h | h; simp [dropB, keyedB, h.1, h.2]; simp [dropB, h])]
  · intro h6
    have hk : keyedB o.kind = true := by simp only [keyedB]; simp; exact h6.1
    refine AW.skip ?_
    refine AW.rSC ?_
    refine awOps.cons (awGuard.c1 (c_ref_lessO _ o key (by omega) hk h6.2) ?_)
    refine awOps.rn ?_
    refine AW.rt ?_
    all_goals first | contradiction | rfl | (simp; done) | (simp; omega)
theorem c_foliantref05_Set (gl : List (Nat × AV)) (o : Pob) (key : List UInt8) (v : Pob) (h : o.tot + v.tot + key.length ≤ 16777000) : FnP Tryz.prog (gl) 54 [.agg o.cells, .str key, .agg v.cells] fun r => r = .ret (.tup [.agg (setO o key v).cells, .int .i64 (setE o key v)]) := by
  refine FnP.intro Tryz.func54 rfl rfl (by simp [Tryz.ntmps54]) ?_
  simp only [argEnv, Tryz.ntmps54, Tryz.results54]
  have hb := Pob.bulk_tot o
  have hwt := withK_tot o key v
  refine AW.rS ?_
  refine AW.seq ?_
  refine AW.rS ?_
  refine AW.c2 ?_ ?_
  · intro h4
    refine AW.rS ?_
    refine AW.rt ?_
    have hu := set_unkeyed (o := o) (v := v) (key := key) (by simp [keyedB, h4.1, h4.2])
    rw [hu.1, hu.2]; rfl
  · intro h4
    have hk : keyedB o.kind = true := by simp only [keyedB]; simp; omega
    refine AW.skip ?_
    refine AW.seq ?_
    refine AW.rSC ?_
    refine awOps.cons (awGuard.c1 (c_foliantref05_Check _ o (by omega)) ?_)
    refine awOps.rn ?_
    refine AW.rS ?_
    refine AW.c2 ?_ ?_
    · intro h14
      refine AW.rS ?_
      refine AW.rt ?_
      have hu := set_bad (v := v) (key := key) hk h14
      rw [hu.1, hu.2]; rfl
    · intro h14
      have hs := kvOk_of_chk h14 hk
      refine AW.skip ?_
      refine AW.seq ?_
      refine AW.rS ?_
      refine AW.c2 ?_ ?_
      · intro h21
        refine AW.rSC ?_
        refine awOps.cons (awGuard.c1 (c_ref_lessO _ o key (by omega) hk h14) ?_)
        refine awOps.rn ?_
        refine AW.rt ?_
        have hu := set_null (v := v) (key := key) hk h14 h21
        rw [hu.1, hu.2]
      · intro h21
        refine AW.skip ?_
        refine AW.rSC ?_
        refine awOps.cons (awGuard.c1 (c_foliantref05_put _ o key v (by omega) hs.2) ?_)
        refine awOps.rn ?_
        refine awOps.cons (awGuard.c1 (c_foliantref05_right _ (o.withK key v) (by omega)) ?_)
        refine awOps.rn ?_
        refine AW.rt ?_
        have hu := set_val (key := key) hk h14 h21
        rw [hu.1, hu.2]
theorem c_foliantref05_Stream (gl : List (Nat × AV)) (o : Pob) (s : List UInt8) (h : o.tot + s.length ≤ 16777000) : FnP Tryz.prog (gl) 52 [.agg o.cells, .str s] fun r => r = .ret (.tup [.agg (streamO o s).cells, .int .i64 (streamE o s)]) := by
  refine FnP.intro Tryz.func52 rfl rfl (by simp [Tryz.ntmps52]) ?_
  simp only [argEnv, Tryz.ntmps52, Tryz.results52]
  have hb := Pob.bulk_tot o
  have hst := strm_tot o s
  refine AW.rS ?_
  refine AW.seq ?_
  refine AW.rS ?_
  refine AW.c2 ?_ ?_
  · intro h4
    refine AW.rS ?_
    refine AW.rt ?_
    have hu := stream_kind (s := s) h4
    rw [hu.1, hu.2]; rfl
  · intro h4
    have hk : keyedB o.kind = true := by simp [keyedB, h4]
    refine AW.skip ?_
    refine AW.seq ?_
    refine AW.rSC ?_
    refine awOps.cons (awGuard.c1 (c_foliantref05_Check _ o (by omega)) ?_)
    refine awOps.rn ?_
    refine AW.rS ?_
    refine AW.c2 ?_ ?_
    · intro h14
      refine AW.rS ?_
      refine AW.rt ?_
      have hu := stream_bad (s := s) h4 h14
      rw [hu.1, hu.2]; rfl
    · intro h14
      obtain ⟨g1, g2, g3, g4⟩ := dropO_frame o lengthK
      obtain ⟨⟨_, n1, n2, _⟩, _⟩ := (chk_keyed hk).1 h14
      have hstm : (dropO o lengthK).strm s = .mk 9 0 0 s (dropO o lengthK).keys (dropO o lengthK).kids := by unfold Pob.strm; rw [g2, g3, n1, n2]
      rw [hstm] at hst
      refine AW.skip ?_
      refine AW.rSC ?_
      refine awOps.cons (awGuard.c1 (c_ref_lessO _ o lengthK (by omega) hk h14) ?_)
      refine awOps.rn ?_
      refine AW.rSC ?_
      refine awOps.cons (awGuard.c1 (c_foliantref05_right _ (.mk 9 0 0 s (dropO o lengthK).keys (dropO o lengthK).kids) (by omega)) ?_)
      refine awOps.rn ?_
      refine AW.rt ?_
      have hu := stream_ok (s := s) h4 h14
      rw [hu.1, hu.2, hstm]
end Go.Proofs

namespace Go.Proofs
open Go Aw
set_option linter.unusedSimpArgs false
set_option linter.unusedVariables false
set_option maxRecDepth 100000
set_option maxHeartbeats 4000000

theorem c_docs_kind (gl : List (Nat × AV)) (o : Pob) (h : o.bulk ≤ 16777216 := by first | omega | exact u8_le _ | assumption | (simp; done) | (simp; omega)) : FnP Tryz.prog (gl) 194 [.agg o.cells] fun r => r = .ret (.str (docKind o)) := by
  refine FnP.intro Tryz.func194 rfl rfl (by simp [Tryz.ntmps194]) ?_
  simp only [argEnv, Tryz.ntmps194, Tryz.results194]
  refine AW.rS ?_
  refine AW.rSC ?_
  refine awOps.cons (awGuard.c1 (c_value_Get ..) ?_)
  refine awOps.rn ?_
  refine AW.seq ?_
  refine AW.rS ?_
  refine AW.c2 ?_ ?_
  · intro h7
    refine AW.rS ?_
    refine AW.rt ?_
    simp_all [docKind, typeK]
  · intro h7
    refine AW.skip ?_
    refine AW.rS ?_
    refine AW.rt ?_
    simp_all [docKind, typeK]
theorem c_docs_holds (gl : List (Nat × AV)) (o : Pob) (h : o.bulk ≤ 16777216 := by first | omega | exact u8_le _ | assumption | (simp; done) | (simp; omega)) : FnP Tryz.prog (gl) 177 [.agg o.cells] fun r => r = .ret (.bool (holdsB o)) := by
  refine FnP.intro Tryz.func177 rfl rfl (by simp [Tryz.ntmps177]) ?_
  simp only [argEnv, Tryz.ntmps177, Tryz.results177]
  refine AW.rS ?_
  refine AW.rSC ?_
  refine awOps.cons (awGuard.cG (fun hg => c_docs_kind ..) ?_)
  refine awOps.rn ?_
  refine awOps.cons (awGuard.cG (fun hg => c_docs_kind ..) ?_)
  refine awOps.rn ?_
  refine AW.rt ?_
  simp_all [holdsB]
theorem c_docs_content (gl : List (Nat × AV)) (i : Itm) (h : i.obj.bulk ≤ 16777216 := by first | omega | exact u8_le _ | assumption | (simp; done) | (simp; omega)) : FnP Tryz.prog (gl) 143 [.agg i.cells] fun r => r = .ret (.int .i64 (contentE i)) := by
  refine FnP.intro Tryz.func143 rfl rfl (by simp [Tryz.ntmps143]) ?_
  simp only [argEnv, Tryz.ntmps143, Tryz.results143]
  refine AW.rS ?_
  refine AW.seq ?_
  refine AW.rSC ?_
  refine awOps.cons (awGuard.c1 (c_value_Check _ i.obj) ?_)
  refine awOps.rn ?_
  refine AW.rS ?_
  refine AW.c2 ?_ ?_
  · intro h7
    refine AW.rS ?_
    refine AW.rt ?_
    · rw [content_bad h7]
    all_goals first | contradiction | rfl | (simp; done) | (simp; omega)
  · intro h7
    refine AW.skip ?_
    refine AW.seq ?_
    refine AW.rSC ?_
    refine awOps.cons (awGuard.cG (fun hg => c_docs_holds _ i.obj) ?_)
    refine awOps.rn ?_
    refine AW.c2 ?_ ?_
    · intro h16
      refine AW.rS ?_
      refine AW.rt ?_
      simp only [contentE]; simp_all
    · intro h16
      refine AW.skip ?_
      refine AW.rS ?_
      refine AW.rt ?_
      simp only [contentE]; simp_all
theorem c_docs_alone (gl : List (Nat × AV)) (i : Itm) (h : i.obj.bulk ≤ 16777216 := by first | omega | exact u8_le _ | assumption | (simp; done) | (simp; omega)) : FnP Tryz.prog (gl) 72 [.agg i.cells] fun r => r = .ret (.int .i64 (aloneE i)) := by
  refine FnP.intro Tryz.func72 rfl rfl (by simp [Tryz.ntmps72]) ?_
  simp only [argEnv, Tryz.ntmps72, Tryz.results72]
  refine AW.rS ?_
  refine AW.seq ?_
  refine AW.rSC ?_
  refine awOps.cons (awGuard.c1 (c_docs_numbers _ i) ?_)
  refine awOps.rn ?_
  refine AW.c2 ?_ ?_
  · intro h6
    refine AW.rS ?_
    refine AW.rt ?_
    rw [aloneE, if_pos (nums_no h6)]
  · intro h6
    refine AW.skip ?_
    refine AW.rSC ?_
    refine awOps.cons (awGuard.c1 (c_docs_content _ i) ?_)
    refine awOps.rn ?_
    refine AW.rt ?_
    rw [aloneE, if_neg (by rw [nums_yes h6]; simp)]
theorem c_docs_items (gl : List (Nat × AV)) (l : List Itm) (h : ibulk l ≤ 16777216) : FnP Tryz.prog (gl) 87 [.sl (itemsAV l)] fun r => r = .ret (.int .i64 (itemsE l)) := by
  refine FnP.intro Tryz.func87 rfl rfl (by simp [Tryz.ntmps87]) ?_
  simp only [argEnv, Tryz.ntmps87, Tryz.results87]
  have hlen := ibulk_len l
  refine AW.rS ?_
  refine AW.seq ?_
  refine AW.rS ?_
  refine AW.block ?_
  refine AW.lk (S := { k : Nat // k ≤ l.length ∧ itemsE l = itemsFrom l k (l.length - k) }) [0, 6, 7] (fun s_ => [(8, .int .i64 s_.1)]) (fun s_ => []) 0 (fun s_ => l.length - s_.1) ⟨0, Nat.zero_le _, rfl⟩ ?_ ?_
  · refine St.le.vw []
  rintro ⟨k, hk, hs⟩
  try dsimp only at hk
  try dsimp only at hs
  refine AW.rS ?_
  refine AW.seq ?_
  refine AW.c2 ?_ ?_
  · intro h8
    have hgb := ibulk_get (l := l) (i := k) (by omega)
    refine AW.skip ?_
    refine AW.seq ?_
    refine AW.block ?_
    refine AW.rS ?_
    refine AW.seq ?_
    refine AW.block ?_
    refine AW.rSC ?_
    refine awOps.cons (awGuard.c1 (c_docs_numbers _ (l.getD k Itm.zero)) ?_)
    refine awOps.rn ?_
    refine AW.c2 ?_ ?_
    · intro h18
      refine AW.rS ?_
      refine AW.rt ?_
      rw [hs, itemsFrom_step h8, if_pos (nums_no h18)]
    · intro h18
      refine AW.dS [(0, 0), (1, 0), (2, 0), (3, 0), (4, 1), (5, 0), (6, 0), (7, 0), (8, 1), (9, 0), (10, 1), (11, 0), (12, 0), (13, 0)] ?_
      refine AW.c2 ?_ ?_
      · intro h23
        refine AW.rS ?_
        refine AW.rt ?_
        rw [hs, itemsFrom_step h8, if_neg (by rw [nums_yes h18]; simp), if_pos (by omega)]
      · intro h23
        refine AW.skip ?_
        refine AW.rSC ?_
        refine awOps.cons (awGuard.c1 (c_docs_content _ (l.getD k Itm.zero)) ?_)
        refine awOps.rn ?_
        refine AW.rS ?_
        refine AW.c2 ?_ ?_
        · intro h32
          refine AW.rS ?_
          refine AW.rt ?_
          rw [hs, itemsFrom_step h8, if_neg (by rw [nums_yes h18]; simp), if_neg (by omega), if_pos h32]
        · intro h32
          refine AW.skip ?_
          refine AW.rL ?_
          refine ⟨⟨k + 1, by omega, by rw [hs, itemsFrom_step (by omega), if_neg (by rw [nums_yes h18]; simp), if_neg (by omega), if_neg (by simpa using h32)]⟩, ?_, ?_⟩
          · refine St.le.vw []
          · simp only []; omega
  · intro h8
    refine AW.exit ?_
    refine AW.rS ?_
    refine AW.rt ?_
    rw [hs, show l.length - k = 0 from by omega, itemsFrom]
end Go.Proofs

namespace Go.Proofs
open Go Aw
set_option linter.unusedSimpArgs false
set_option linter.unusedVariables false
set_option maxRecDepth 100000
set_option maxHeartbeats 4000000

theorem c_docs_Follow_1 (gl : List (Nat × AV)) (i : Itm) (o : Pob) : FnP Tryz.prog (gl) 94 [.agg i.cells, .tptr o.cells] fun r => r = .ret (.bool (decide (i.num = o.num))) := by
  refine FnP.intro Tryz.func94 rfl rfl (by simp [Tryz.ntmps94]) ?_
  simp only [argEnv, Tryz.ntmps94, Tryz.results94]
  refine AW.rS ?_
  refine AW.rS ?_
  refine AW.rt ?_
  all_goals first | contradiction | rfl | (simp; done) | (simp; omega)
theorem c_IndexFunc_Follow (gl : List (Nat × AV)) (l : List Itm) (o : Pob) (hl : l.length ≤ 16777216 := by first | omega | exact u8_le _ | assumption | (simp; done) | (simp; omega)) : FnP Tryz.prog (gl) 85 [.sl (itemsAV l), .clos 94 [.tptr o.cells]] fun r => r = .ret (.int .i64 (iidxI l o.num)) := by
  refine FnP.intro Tryz.func85 rfl rfl (by simp [Tryz.ntmps85]) ?_
  simp only [argEnv, Tryz.ntmps85, Tryz.results85]
  refine AW.rS ?_
  refine AW.seq ?_
  refine AW.rS ?_
  refine AW.block ?_
  refine AW.lk (S := { i : Nat // i ≤ l.length ∧ ∀ j, j < i → (l.getD j Itm.zero).num ≠ o.num }) [0, 1, 7] (fun s_ => [(8, .int .i64 s_.1)]) (fun s_ => []) 0 (fun s_ => l.length - s_.1) ⟨0, Nat.zero_le _, fun j h => absurd h (by omega)⟩ ?_ ?_
  · refine St.le.vw []
  rintro ⟨i, hi, hs⟩
  try dsimp only at hi
  try dsimp only at hs
  refine AW.rS ?_
  refine AW.seq ?_
  refine AW.c2 ?_ ?_
  · intro h8
    refine AW.skip ?_
    refine AW.seq ?_
    refine AW.block ?_
    refine AW.rS ?_
    refine AW.rSC ?_
    refine awOps.cons (awGuard.c1 (c_docs_Follow_1 _ (l.getD i Itm.zero) o) ?_)
    refine awOps.rn ?_
    refine AW.c2 ?_ ?_
    · intro h16
      refine AW.rS ?_
      refine AW.rt ?_
      rw [iidx_hit h8 hs h16]
    · intro h16
      refine AW.skip ?_
      refine AW.rL ?_
      refine ⟨⟨i + 1, by omega, fun j hj => (Nat.lt_or_ge j i).elim (hs j) (fun h => (show j = i by omega) ▸ h16)⟩, ?_, ?_⟩
      · refine St.le.vw []
      · simp only []; omega
  · intro h8
    refine AW.exit ?_
    refine AW.rS ?_
    refine AW.rt ?_
    rw [iidx_miss (fun j hj => hs j (by omega))]
theorem c_docs_Follow (gl : List (Nat × AV)) (d : Dc) (o : Pob) (h : d.bulk ≤ 16777216 := by first | omega | exact u8_le _ | assumption | (simp; done) | (simp; omega)) (ho : o.bulk ≤ 16777216 := by first | omega | exact u8_le _ | assumption | (simp; done) | (simp; omega)) : FnP Tryz.prog (gl) 31 [.agg d.cells, .agg o.cells] fun r => r = .ret (.agg (followO d o).cells) := by
  refine FnP.intro Tryz.func31 rfl rfl (by simp [Tryz.ntmps31]) ?_
  simp only [argEnv, Tryz.ntmps31, Tryz.results31]
  have hlen := ibulk_len d.items
  have hlt := iidxI_lt (l := d.items) (n := o.num)
  simp only [Dc.bulk] at h
  refine AW.rS ?_
  refine AW.seq ?_
  refine AW.rS ?_
  refine AW.c2 ?_ ?_
  · intro h4
    refine AW.rSC ?_
    refine awOps.cons (awGuard.c1 (c_value_Clone _ o ho) ?_)
    refine awOps.rn ?_
    refine AW.rt ?_
    rw [followO, if_pos h4]
  · intro h4
    refine AW.skip ?_
    refine AW.rSC ?_
    refine awOps.cons (awGuard.c1 (c_IndexFunc_Follow _ d.items o (by omega)) ?_)
    refine awOps.rn ?_
    refine AW.seq ?_
    by_cases hs15 : 0 ≤ iidxI d.items o.num
    · skip
      refine AW.dS [(0, 0), (1, 0), (2, 0), (3, 0), (4, 1), (5, 0), (6, 1), (7, 0), (8, 1), (9, 0), (10, 1), (11, 0), (12, 0)] ?_
      refine AW.c2 ?_ ?_
      · intro h16
        refine AW.rS ?_
        refine AW.rt ?_
        have hf : followO d o = Pob.null := by simp only [followO]; grind
        rw [hf]; rfl
      · intro h16
        refine AW.skip ?_
        refine AW.rSC ?_
        refine awOps.cons (awGuard.c1 (c_value_Clone _ (d.items.getD (iidxI d.items o.num).toNat Itm.zero).obj (by have := ibulk_get (l := d.items) (i := (iidxI d.items o.num).toNat) (by omega); omega)) ?_)
        refine awOps.rn ?_
        refine AW.rt ?_
        have hf : followO d o = (d.items.getD (iidxI d.items o.num).toNat Itm.zero).obj := by simp only [followO]; grind
        rw [hf]
    · skip
      by_cases hs15 : 0 < d.items.length
      · skip
        refine AW.dS [(0, 0), (1, 0), (2, 0), (3, 0), (4, 1), (5, 0), (6, 1), (7, 0), (8, 1), (9, 0), (10, 1), (11, 0), (12, 0)] ?_
        refine AW.c2 ?_ ?_
        · intro h16
          refine AW.rS ?_
          refine AW.rt ?_
          have hf : followO d o = Pob.null := by simp only [followO]; grind
          rw [hf]; rfl
        · intro h16
          exfalso; first | omega | (simp at h16; omega)
      · skip
        refine AW.dS [(0, 0), (1, 0), (2, 0), (3, 0), (4, 1), (5, 0), (6, 1), (7, 0), (8, 1), (9, 0), (10, 1), (11, 0), (12, 0)] ?_
        refine AW.c2 ?_ ?_
        · intro h16
          refine AW.rS ?_
          refine AW.rt ?_
          have hf : followO d o = Pob.null := by simp only [followO]; grind
          rw [hf]; rfl
        · intro h16
          exfalso; first | omega | (simp at h16; omega)
end Go.Proofs

namespace Go.Proofs
open Go Aw
set_option linter.unusedSimpArgs false
set_option linter.unusedVariables false
set_option maxRecDepth 100000
set_option maxHeartbeats 4000000

theorem c_cmp_isNaN_int (gl : List (Nat × AV)) (n : Int) : FnP Tryz.prog (gl) 181 [.int .i64 n] fun r => r = .ret (.bool false) := by
  refine FnP.intro Tryz.func181 rfl rfl (by simp [Tryz.ntmps181]) ?_
  simp only [argEnv, Tryz.ntmps181, Tryz.results181]
  refine AW.rS ?_
  refine AW.rS ?_
  refine AW.rt ?_
  all_goals first | contradiction | rfl | (simp; done) | (simp; omega)
theorem c_cmp_Compare_int (gl : List (Nat × AV)) (x y : Int) : FnP Tryz.prog (gl) 147 [.int .i64 x, .int .i64 y] fun r => r = .ret (.int .i64 (cmpI x y)) := by
  refine FnP.intro Tryz.func147 rfl rfl (by simp [Tryz.ntmps147]) ?_
  simp only [argEnv, Tryz.ntmps147, Tryz.results147]
  refine AW.rS ?_
  refine AW.rSC ?_
  refine awOps.cons (awGuard.c1 (c_cmp_isNaN_int _ x) ?_)
  refine awOps.rn ?_
  refine AW.rSC ?_
  refine awOps.cons (awGuard.c1 (c_cmp_isNaN_int _ y) ?_)
  refine awOps.rn ?_
  refine AW.seq ?_
  refine AW.rS ?_
  refine AW.c2 ?_ ?_
  · intro h10
    refine AW.seq ?_
    refine AW.rS ?_
    refine AW.c2 ?_ ?_
    · intro h13
      refine AW.rS ?_
      refine AW.rt ?_
      all_goals first | contradiction | rfl | (simp; done) | (simp; omega)
    · intro h13
      refine AW.skip ?_
      refine AW.rS ?_
      refine AW.rt ?_
      all_goals first | contradiction | rfl | (simp; done) | (simp; omega)
  · intro h10
    refine AW.skip ?_
    refine AW.seq ?_
    refine AW.rS ?_
    refine AW.c2 ?_ ?_
    · intro h24
      refine AW.rS ?_
      refine AW.rt ?_
      all_goals first | contradiction | rfl | (simp; done) | (simp; omega)
    · intro h24
      refine AW.skip ?_
      refine AW.seq ?_
      refine AW.rS ?_
      refine AW.c2 ?_ ?_
      · intro h31
        refine AW.rS ?_
        refine AW.rt ?_
        rw [cmpI, if_pos h31]
      · intro h31
        refine AW.skip ?_
        refine AW.seq ?_
        refine AW.rS ?_
        refine AW.c2 ?_ ?_
        · intro h38
          refine AW.rS ?_
          refine AW.rt ?_
          rw [cmpI, if_neg (by omega), if_pos h38]
        · intro h38
          refine AW.skip ?_
          refine AW.rS ?_
          refine AW.rt ?_
          rw [cmpI, if_neg (by omega), if_neg (by omega)]
theorem c_docs_byNum (gl : List (Nat × AV)) (i : Itm) (n : Int) : FnP Tryz.prog (gl) 82 [.agg i.cells, .int .i64 n] fun r => r = .ret (.int .i64 (cmpI i.num n)) := by
  refine FnP.intro Tryz.func82 rfl rfl (by simp [Tryz.ntmps82]) ?_
  simp only [argEnv, Tryz.ntmps82, Tryz.results82]
  refine AW.rS ?_
  refine AW.rSC ?_
  refine awOps.cons (awGuard.c1 (c_cmp_Compare_int _ i.num n) ?_)
  refine awOps.rn ?_
  refine AW.rt ?_
  all_goals first | contradiction | rfl | (simp; done) | (simp; omega)
theorem cmpI_neg {x y : Int} : (cmpI x y < 0) = (x < y) := by
  unfold cmpI
  by_cases h : x < y
  · simp [h]
  · by_cases h' : y < x <;> simp [h, h']
theorem cmpI_zero {x y : Int} : (cmpI x y = 0) = (x = y) := by
  unfold cmpI
  by_cases h : x < y
  · simp [h]; omega
  · by_cases h' : y < x
    · simp [h, h']; omega
    · simp [h, h']; omega
theorem c_BinSearch_Item (gl : List (Nat × AV)) (l : List Itm) (n : Int) (hl : l.length ≤ 16777216 := by first | omega | exact u8_le _ | assumption | (simp; done) | (simp; omega)) (hs : incrN l := by first | omega | exact u8_le _ | assumption | (simp; done) | (simp; omega)) : FnP Tryz.prog (gl) 81 [.sl (itemsAV l), .int .i64 n, .clos 82 []] fun r => r = .ret (.tup [.int .i64 (iplace l n), .bool (ithere l n)]) := by
  refine FnP.intro Tryz.func81 rfl rfl (by simp [Tryz.ntmps81]) ?_
  simp only [argEnv, Tryz.ntmps81, Tryz.results81]
  refine AW.rS ?_
  refine AW.rS ?_
  refine AW.rS ?_
  refine AW.seq ?_
  refine AW.block ?_
  refine AW.lk (S := { p : Nat × Nat // p.1 ≤ p.2 ∧ p.2 ≤ l.length ∧ (∀ a, a < p.1 → (l.getD a Itm.zero).num < n) ∧ (∀ a, p.2 ≤ a → a < l.length → n ≤ (l.getD a Itm.zero).num) }) [0, 1, 2, 8] (fun s_ => [(9, .int .i64 s_.1.1), (10, .int .i64 s_.1.2)]) (fun s_ => []) 0 (fun s_ => s_.1.2 - s_.1.1) ⟨(0, l.length), Nat.zero_le _, Nat.le_refl _, fun a h => absurd h (by omega), fun a h h' => absurd h' (by omega)⟩ ?_ ?_
  · refine St.le.vw []
  rintro ⟨⟨i, j⟩, h1, h2, h3, h4⟩
  try dsimp only at h1
  try dsimp only at h2
  try dsimp only at h3
  try dsimp only at h4
  refine AW.seq ?_
  refine AW.rS ?_
  refine AW.c2 ?_ ?_
  · intro h9
    refine AW.skip ?_
    refine AW.block ?_
    refine AW.rS ?_
    refine AW.rSC ?_
    refine awOps.cons (awGuard.c1 (c_docs_byNum _ (l.getD ((i + j) / 2) Itm.zero) n) ?_)
    refine awOps.rn ?_
    refine AW.c2 ?_ ?_
    · intro h16
      rw [cmpI_neg] at h16
      refine AW.rL ?_
      refine ⟨⟨((i + j) / 2 + 1, j), by dsimp only; omega, h2, fun a ha => ibs_lo hs h16 (by omega) (by dsimp only at ha; omega), h4⟩, ?_, ?_⟩
      · refine St.le.vw []
      · simp only []; omega
    · intro h16
      have h16' : n ≤ (l.getD ((i + j) / 2) Itm.zero).num := by have := @cmpI_neg (l.getD ((i + j) / 2) Itm.zero).num n; by_cases hh : (l.getD ((i + j) / 2) Itm.zero).num < n; rw [← this] at hh; omega; omega
      refine AW.rL ?_
      refine ⟨⟨(i, (i + j) / 2), by dsimp only; omega, by dsimp only; omega, h3, fun a ha hb => ibs_hi hs h16' (by dsimp only at ha; omega) hb⟩, ?_, ?_⟩
      · refine St.le.vw []
      · simp only []; omega
  · intro h9
    refine AW.exit ?_
    obtain rfl : i = j := by omega
    have hkp := iplace_eq h2 h3 (fun h => h4 _ (Nat.le_refl _) h)
    by_cases hs22 : i < l.length
    · skip
      refine AW.rSC ?_
      refine awOps.cons (awGuard.cG (fun hg => c_docs_byNum _ (l.getD i Itm.zero) n) ?_)
      refine awOps.rn ?_
      refine AW.rt ?_
      rw [ithere_eq hkp, hkp]
      simp [hs22, cmpI_zero]
    · skip
      refine AW.rSC ?_
      refine awOps.cons (awGuard.gF (.int .i64 0) ?_ ?_)
      · simp [hs22]
      refine awOps.rn ?_
      refine AW.rt ?_
      rw [ithere_eq hkp, hkp]
      simp [hs22, cmpI_zero]
theorem h_BinSearch_Item (gl : List (Nat × AV)) (l : List Itm) (q : Int) (hl : l.length ≤ 16777216 := by first | omega | exact u8_le _ | assumption | (simp; done) | (simp; omega)) (hs : incrN l := by first | omega | exact u8_le _ | assumption | (simp; done) | (simp; omega)) : FnH Tryz.prog (gl) 81 [.row 0 0 l.length, .int .i64 q, .clos 82 []] ([(0, .row 8 (itemsAV l) true)]) 1 (fun r h n => r = .ret (.tup [.int .i64 (iplace l q), .bool (ithere l q)]) ∧ h = [(0, .row 8 (itemsAV l) true)] ∧ n = 1) := by
  refine FnH.intro Tryz.func81 rfl rfl (by simp [Tryz.ntmps81]) ?_
  simp only [argEnv, Tryz.ntmps81, Tryz.results81]
  refine AW.rS ?_
  refine AW.rS ?_
  refine AW.rS ?_
  refine AW.seq ?_
  refine AW.block ?_
  refine AW.lk (S := { p : Nat × Nat // p.1 ≤ p.2 ∧ p.2 ≤ l.length ∧ (∀ a, a < p.1 → (l.getD a Itm.zero).num < q) ∧ (∀ a, p.2 ≤ a → a < l.length → q ≤ (l.getD a Itm.zero).num) }) [0, 1, 2, 8] (fun s_ => [(9, .int .i64 s_.1.1), (10, .int .i64 s_.1.2)]) (fun s_ => [(0, .row 8 (itemsAV l) true)]) 1 (fun s_ => s_.1.2 - s_.1.1) ⟨(0, l.length), Nat.zero_le _, Nat.le_refl _, fun a h => absurd h (by omega), fun a h h' => absurd h' (by omega)⟩ ?_ ?_
  · refine St.le.vw [0]
  rintro ⟨⟨i, j⟩, h1, h2, h3, h4⟩
  try dsimp only at h1
  try dsimp only at h2
  try dsimp only at h3
  try dsimp only at h4
  refine AW.seq ?_
  refine AW.rS ?_
  refine AW.c2 ?_ ?_
  · intro h9
    refine AW.skip ?_
    refine AW.block ?_
    refine AW.rS ?_
    refine AW.rSC ?_
    refine awOps.cons (awGuard.c1 (c_docs_byNum _ (l.getD ((i + j) / 2) Itm.zero) q) ?_)
    refine awOps.rn ?_
    refine AW.c2 ?_ ?_
    · intro h16
      rw [cmpI_neg] at h16
      refine AW.rL ?_
      refine ⟨⟨((i + j) / 2 + 1, j), by dsimp only; omega, h2, fun a ha => ibs_lo hs h16 (by omega) (by dsimp only at ha; omega), h4⟩, ?_, ?_⟩
      · refine St.le.vw [0]
      · simp only []; omega
    · intro h16
      have h16' : q ≤ (l.getD ((i + j) / 2) Itm.zero).num := by have := @cmpI_neg (l.getD ((i + j) / 2) Itm.zero).num q; by_cases hh : (l.getD ((i + j) / 2) Itm.zero).num < q; rw [← this] at hh; omega; omega
      refine AW.rL ?_
      refine ⟨⟨(i, (i + j) / 2), by dsimp only; omega, by dsimp only; omega, h3, fun a ha hb => ibs_hi hs h16' (by dsimp only at ha; omega) hb⟩, ?_, ?_⟩
      · refine St.le.vw [0]
      · simp only []; omega
  · intro h9
    refine AW.exit ?_
    obtain rfl : i = j := by omega
    have hkp := iplace_eq h2 h3 (fun h => h4 _ (Nat.le_refl _) h)
    by_cases hs22 : i < l.length
    · skip
      refine AW.rSC ?_
      refine awOps.cons (awGuard.cG (fun hg => c_docs_byNum _ (l.getD i Itm.zero) q) ?_)
      refine awOps.rn ?_
      refine AW.rt ?_
      rw [ithere_eq hkp, hkp]
      simp [hs22, cmpI_zero]
    · skip
      refine AW.rSC ?_
      refine awOps.cons (awGuard.gF (.int .i64 0) ?_ ?_)
      · simp [hs22]
      refine awOps.rn ?_
      refine AW.rt ?_
      rw [ithere_eq hkp, hkp]
      simp [hs22, cmpI_zero]
end Go.Proofs

namespace Go.Proofs
open Go Aw
set_option linter.unusedSimpArgs false
set_option linter.unusedVariables false
set_option maxRecDepth 100000
set_option maxHeartbeats 4000000

theorem c_docs_known (gl : List (Nat × AV))  : FnP Tryz.prog (gl) 95 [] fun r => r = .ret (.sl (strsAV trailK)) := by
  refine FnP.intro Tryz.func95 rfl rfl (by simp [Tryz.ntmps95]) ?_
  simp only [argEnv, Tryz.ntmps95, Tryz.results95]
  refine AW.rS ?_
  refine AW.rS ?_
  refine AW.rt ?_
  all_goals first | contradiction | rfl | (simp; done) | (simp; omega)
theorem c_slices_Contains_string_string (gl : List (Nat × AV)) (ks : List (List UInt8)) (k : List UInt8) (h : ks.length ≤ 16777216 := by first | omega | exact u8_le _ | assumption | (simp; done) | (simp; omega)) : FnP Tryz.prog (gl) 148 [.sl (strsAV ks), .str k] fun r => r = .ret (.bool (decide (0 ≤ kidxI ks k))) := by
  refine FnP.intro Tryz.func148 rfl rfl (by simp [Tryz.ntmps148]) ?_
  simp only [argEnv, Tryz.ntmps148, Tryz.results148]
  refine AW.rS ?_
  refine AW.rSC ?_
  refine awOps.cons (awGuard.c1 (c_slices_Index_string_string _ ks k) ?_)
  refine awOps.rn ?_
  refine AW.rt ?_
  all_goals first | contradiction | rfl | (simp; done) | (simp; omega)
theorem c_docs_trail (gl : List (Nat × AV)) (d : Dc) (h : d.bulk ≤ 16777216 := by first | omega | exact u8_le _ | assumption | (simp; done) | (simp; omega)) : FnP Tryz.prog (gl) 88 [.agg d.cells] fun r => r = .ret (.int .i64 (trailE d)) := by
  refine FnP.intro Tryz.func88 rfl rfl (by simp [Tryz.ntmps88]) ?_
  simp only [argEnv, Tryz.ntmps88, Tryz.results88]
  have h0 := h
  simp only [Dc.bulk] at h
  have hkb := Pob.bulk_eq d.trailer
  have hrb := get_bulk d.trailer rootK
  refine AW.rS ?_
  refine AW.seq ?_
  refine AW.rSC ?_
  refine awOps.cons (awGuard.c1 (c_value_Check _ d.trailer) ?_)
  refine awOps.rn ?_
  refine AW.rS ?_
  refine AW.c2 ?_ ?_
  · intro h7
    refine AW.rS ?_
    refine AW.rt ?_
    rw [trail_bad h7]
  · intro h7
    refine AW.skip ?_
    refine AW.seq ?_
    refine AW.rS ?_
    refine AW.c2 ?_ ?_
    · intro h14
      refine AW.rS ?_
      refine AW.rt ?_
      rw [trail_kind h7 h14]
    · intro h14
      refine AW.skip ?_
      refine AW.seq ?_
      refine AW.rS ?_
      refine AW.block ?_
      refine AW.lk (S := { i : Nat // i ≤ d.trailer.keys.length ∧ ∀ j, j < i → 0 ≤ kidxI trailK (d.trailer.keys.getD j []) }) [1, 20, 21] (fun s_ => [(22, .int .i64 s_.1)]) (fun s_ => [(0, .cells d.cells)]) 1 (fun s_ => d.trailer.keys.length - s_.1) ⟨0, Nat.zero_le _, fun j h => absurd h (by omega)⟩ ?_ ?_
      · refine St.le.vw [0]
      rintro ⟨i, hi, hs⟩
      try dsimp only at hi
      try dsimp only at hs
      refine AW.rS ?_
      refine AW.seq ?_
      refine AW.c2 ?_ ?_
      · intro h25
        refine AW.skip ?_
        refine AW.seq ?_
        refine AW.block ?_
        refine AW.rS ?_
        refine AW.rSC ?_
        refine awOps.cons (awGuard.c1 (c_docs_known ..) ?_)
        refine awOps.rn ?_
        refine awOps.cons (awGuard.c1 (c_slices_Contains_string_string _ trailK (d.trailer.keys.getD i []) (by decide)) ?_)
        refine awOps.rn ?_
        refine AW.c2 ?_ ?_
        · intro h35
          refine AW.rS ?_
          refine AW.rt ?_
          rw [trail_key h7 h14 (fun hh => by have := hh i h25; omega)]
        · intro h35
          refine AW.skip ?_
          refine AW.rL ?_
          refine ⟨⟨i + 1, by omega, fun j hj => (Nat.lt_or_ge j i).elim (hs j) (fun h => (show j = i by omega) ▸ h35)⟩, ?_, ?_⟩
          · refine St.le.vw [0]
          · simp only []; omega
      · intro h25
        refine AW.exit ?_
        have htk : trailOk d.trailer.keys := fun j hj => hs j (by omega)
        refine AW.rSC ?_
        refine awOps.cons (awGuard.c1 (c_value_Get _ d.trailer rootK) ?_)
        refine awOps.rn ?_
        refine AW.seq ?_
        refine AW.rSC ?_
        refine awOps.cons (awGuard.cG (fun hg => c_docs_Follow _ d (getO d.trailer rootK) h0 (by omega)) ?_)
        refine awOps.rn ?_
        refine AW.c2 ?_ ?_
        · intro h50
          refine AW.rS ?_
          refine AW.rt ?_
          rw [trail_root h7 h14 htk, if_pos h50]
        · intro h50
          refine AW.skip ?_
          refine AW.rS ?_
          refine AW.rt ?_
          rw [trail_root h7 h14 htk, if_neg (by simp [h50])]
theorem c_docs_Check (gl : List (Nat × AV)) (d : Dc) (h : d.bulk ≤ 16777216 := by first | omega | exact u8_le _ | assumption | (simp; done) | (simp; omega)) : FnP Tryz.prog (gl) 27 [.agg d.cells] fun r => r = .ret (.int .i64 (docE d)) := by
  refine FnP.intro Tryz.func27 rfl rfl (by simp [Tryz.ntmps27]) ?_
  simp only [argEnv, Tryz.ntmps27, Tryz.results27]
  refine AW.rS ?_
  refine AW.seq ?_
  refine AW.rSC ?_
  refine awOps.cons (awGuard.c1 (c_docs_items _ d.items (by simp only [Dc.bulk] at h; omega)) ?_)
  refine awOps.rn ?_
  refine AW.rS ?_
  refine AW.c2 ?_ ?_
  · intro h7
    refine AW.rS ?_
    refine AW.rt ?_
    rw [doc_bad h7]
  · intro h7
    refine AW.skip ?_
    refine AW.rSC ?_
    refine awOps.cons (awGuard.c1 (c_docs_trail _ d h) ?_)
    refine awOps.rn ?_
    refine AW.rt ?_
    rw [doc_trail h7]
theorem c_docs_Get_1 (gl : List (Nat × AV)) (i : Itm) (n : Int) : FnP Tryz.prog (gl) 86 [.agg i.cells, .tptr [.int .i64 n]] fun r => r = .ret (.bool (decide (i.num = n))) := by
  refine FnP.intro Tryz.func86 rfl rfl (by simp [Tryz.ntmps86]) ?_
  simp only [argEnv, Tryz.ntmps86, Tryz.results86]
  refine AW.rS ?_
  refine AW.rS ?_
  refine AW.rt ?_
  all_goals first | contradiction | rfl | (simp; done) | (simp; omega)
theorem c_IndexFunc_Get (gl : List (Nat × AV)) (l : List Itm) (n : Int) (hl : l.length ≤ 16777216 := by first | omega | exact u8_le _ | assumption | (simp; done) | (simp; omega)) : FnP Tryz.prog (gl) 85 [.sl (itemsAV l), .clos 86 [.tptr [.int .i64 n]]] fun r => r = .ret (.int .i64 (iidxI l n)) := by
  refine FnP.intro Tryz.func85 rfl rfl (by simp [Tryz.ntmps85]) ?_
  simp only [argEnv, Tryz.ntmps85, Tryz.results85]
  refine AW.rS ?_
  refine AW.seq ?_
  refine AW.rS ?_
  refine AW.block ?_
  refine AW.lk (S := { i : Nat // i ≤ l.length ∧ ∀ j, j < i → (l.getD j Itm.zero).num ≠ n }) [0, 1, 7] (fun s_ => [(8, .int .i64 s_.1)]) (fun s_ => []) 0 (fun s_ => l.length - s_.1) ⟨0, Nat.zero_le _, fun j h => absurd h (by omega)⟩ ?_ ?_
  · refine St.le.vw []
  rintro ⟨i, hi, hs⟩
  try dsimp only at hi
  try dsimp only at hs
  refine AW.rS ?_
  refine AW.seq ?_
  refine AW.c2 ?_ ?_
  · intro h8
    refine AW.skip ?_
    refine AW.seq ?_
    refine AW.block ?_
    refine AW.rS ?_
    refine AW.rSC ?_
    refine awOps.cons (awGuard.c1 (c_docs_Get_1 _ (l.getD i Itm.zero) n) ?_)
    refine awOps.rn ?_
    refine AW.c2 ?_ ?_
    · intro h16
      refine AW.rS ?_
      refine AW.rt ?_
      rw [iidx_hit h8 hs h16]
    · intro h16
      refine AW.skip ?_
      refine AW.rL ?_
      refine ⟨⟨i + 1, by omega, fun j hj => (Nat.lt_or_ge j i).elim (hs j) (fun h => (show j = i by omega) ▸ h16)⟩, ?_, ?_⟩
      · refine St.le.vw []
      · simp only []; omega
  · intro h8
    refine AW.exit ?_
    refine AW.rS ?_
    refine AW.rt ?_
    rw [iidx_miss (fun j hj => hs j (by omega))]
theorem c_docs_Get (gl : List (Nat × AV)) (d : Dc) (n : Int) (h : d.bulk ≤ 16777216 := by first | omega | exact u8_le _ | assumption | (simp; done) | (simp; omega)) : FnP Tryz.prog (gl) 22 [.agg d.cells, .int .i64 n] fun r => r = .ret (.tup [.agg ((lookI d.items n).getD Itm.zero).cells, .bool (lookI d.items n).isSome]) := by
  refine FnP.intro Tryz.func22 rfl rfl (by simp [Tryz.ntmps22]) ?_
  simp only [argEnv, Tryz.ntmps22, Tryz.results22]
  simp only [Dc.bulk] at h
  have hlen := ibulk_len d.items
  have hlt := iidxI_lt (l := d.items) (n := n)
  refine AW.rS ?_
  refine AW.rSC ?_
  refine awOps.cons (awGuard.c1 (c_IndexFunc_Get _ d.items n) ?_)
  refine awOps.rn ?_
  refine AW.seq ?_
  refine AW.rS ?_
  refine AW.c2 ?_ ?_
  · intro h7
    refine AW.rS ?_
    refine AW.rt ?_
    rw [look_miss h7]; rfl
  · intro h7
    refine AW.skip ?_
    have hgb := ibulk_get (l := d.items) (i := (iidxI d.items n).toNat) (by omega)
    refine AW.rSC ?_
    refine awOps.cons (awGuard.c1 (c_docs_copied _ (d.items.getD (iidxI d.items n).toNat Itm.zero)) ?_)
    refine awOps.rn ?_
    refine AW.rt ?_
    rw [look_hit (by omega)]; rfl
theorem c_docs_Path (gl : List (Nat × AV)) (d : Dc) (o : Pob) (ks : List (List UInt8)) (h : d.bulk ≤ 16777216 := by first | omega | exact u8_le _ | assumption | (simp; done) | (simp; omega)) (ho : o.bulk ≤ 16777216 := by first | omega | exact u8_le _ | assumption | (simp; done) | (simp; omega)) (hk : ks.length ≤ 16777216 := by first | omega | exact u8_le _ | assumption | (simp; done) | (simp; omega)) : FnP Tryz.prog (gl) 33 [.agg d.cells, .agg o.cells, .sl (strsAV ks)] fun r => r = .ret (.agg (pathO d o ks).cells) := by
  refine FnP.intro Tryz.func33 rfl rfl (by simp [Tryz.ntmps33]) ?_
  simp only [argEnv, Tryz.ntmps33, Tryz.results33]
  refine AW.rS ?_
  refine AW.rSC ?_
  refine awOps.cons (awGuard.c1 (c_docs_Follow _ d o) ?_)
  refine awOps.rn ?_
  refine AW.seq ?_
  refine AW.rS ?_
  refine AW.block ?_
  refine AW.lk (S := { p : Nat × Pob // p.1 ≤ ks.length ∧ p.2.bulk ≤ 16777216 ∧ pathO d o ks = pathL d p.2 (ks.drop p.1) }) [3, 4, 6, 14, 15] (fun s_ => [(16, .int .i64 s_.1.1)]) (fun s_ => [(0, .cells d.cells), (1, .cells s_.1.2.cells), (2, .cells [.int .i64 0, .int .i64 0, .int .i64 0, .str [], .raw (.slice none 0 0), .raw (.slice none 0 0)])]) 3 (fun s_ => ks.length - s_.1.1) ⟨(0, followO d o), Nat.zero_le _, follow_bulk h ho, by simp [pathO]⟩ ?_ ?_
  · refine St.le.vw [0, 1, 2]
  rintro ⟨⟨i, q⟩, hi, hq, hs⟩
  try dsimp only at hi
  try dsimp only at hq
  try dsimp only at hs
  refine AW.rS ?_
  refine AW.seq ?_
  refine AW.c2 ?_ ?_
  · intro h11
    have hgq := get_bulk q (ks.getD i [])
    refine AW.skip ?_
    refine AW.seq ?_
    refine AW.block ?_
    refine AW.rS ?_
    refine AW.rSC ?_
    refine awOps.cons (awGuard.c1 (c_value_Get _ q (ks.getD i [])) ?_)
    refine awOps.rn ?_
    refine AW.seq ?_
    refine AW.rS ?_
    refine AW.c2 ?_ ?_
    · intro h21
      refine AW.rS ?_
      refine AW.rt ?_
      rw [hs, pathL_drop h11, if_pos h21]; rfl
    · intro h21
      refine AW.skip ?_
      refine AW.rLC ?_
      refine awOps.cons (awGuard.c1 (c_docs_Follow _ d (getO q (ks.getD i [])) h (by omega)) ?_)
      refine awOps.rn ?_
      refine AW.rL ?_
      refine ⟨⟨(i + 1, followO d (getO q (ks.getD i []))), by dsimp only; omega, follow_bulk h (by omega), by rw [hs, pathL_drop h11, if_neg (by rw [h21]; simp)]⟩, ?_, ?_⟩
      · refine St.le.vw [0, 1, 2]
      · simp only []; omega
  · intro h11
    refine AW.exit ?_
    refine AW.rS ?_
    refine AW.rt ?_
    rw [hs, pathL_end (by omega)]
end Go.Proofs
