/- A part of the proof of a law of the seat: no condition of its own. -/
import Derived.Test.YtokikpiffafajaaGreatPart6
namespace Go.Proofs
open Go Aw
set_option linter.unusedSimpArgs false
set_option linter.unusedVariables false
set_option maxRecDepth 100000
set_option maxHeartbeats 4000000

theorem c_value_Dict (gl : List (Nat × AV)) (ps : List Pob) (h : ps.length + bulks ps ≤ 4000000) : FnP Tryz.prog (gl) 67 [.sl (objsAV ps)] fun r => r = .ret (.tup [.agg (dictO ps).cells, .int .i64 (dictE ps)]) := by
  refine FnP.intro Tryz.func67 rfl rfl (by simp [Tryz.ntmps67]) ?_
  simp only [argEnv, Tryz.ntmps67, Tryz.results67]
  refine AW.rS ?_
  refine AW.seq ?_
  refine AW.rS ?_
  refine AW.c2 ?_ ?_
  · intro h4
    refine AW.rS ?_
    refine AW.rt ?_
    have ha := dict_arg (ps := ps) (by simp only [dictArg, Bool.and_eq_false_iff, decide_eq_false_iff_not]; exact .inl (by omega))
    rw [ha.1, ha.2]; rfl
  · intro h4
    refine AW.skip ?_
    refine AW.seq ?_
    refine AW.rS ?_
    refine AW.block ?_
    refine AW.lk (S := { i : Nat // i % 2 = 0 ∧ i ≤ ps.length ∧ ∀ j, j < i → j % 2 = 0 → (ps.getD j Pob.null).kind = 5 }) [0, 2] (fun s_ => [(4, .int .i64 s_.1)]) (fun s_ => [(0, .cells [.int .i64 0, .int .i64 0, .int .i64 0, .str [], .raw (.slice none 0 0), .raw (.slice none 0 0)])]) 1 (fun s_ => ps.length - s_.1) ⟨0, rfl, Nat.zero_le _, fun j h => absurd h (by omega)⟩ ?_ ?_
    · refine St.le.vw [0]
    rintro ⟨i, hi0, hi, hs⟩
    try dsimp only at hi0
    try dsimp only at hi
    try dsimp only at hs
    refine AW.seq ?_
    refine AW.rS ?_
    refine AW.c2 ?_ ?_
    · intro h15
      refine AW.skip ?_
      refine AW.seq ?_
      refine AW.block ?_
      refine AW.rS ?_
      refine AW.c2 ?_ ?_
      · intro h20
        refine AW.rS ?_
        refine AW.rt ?_
        have ha := dict_arg (ps := ps) (by simp only [dictArg, Bool.and_eq_false_iff, decide_eq_false_iff_not]; exact .inr (fun hh => h20 (hh i h15 hi0)))
        rw [ha.1, ha.2]; rfl
      · intro h20
        refine AW.skip ?_
        refine AW.rL ?_
        refine ⟨⟨i + 2, by omega, by omega, fun j hj h2 => by exact (Nat.lt_or_ge j i).elim (fun h => hs j h h2) (fun h => (show j = i by omega) ▸ h20)⟩, ?_, ?_⟩
        · refine St.le.vw [0]
        · simp only []; omega
    · intro h15
      refine AW.exit ?_
      refine AW.rS ?_
      refine AW.rSC ?_
      refine awOps.cons ?_
      refine awGuard.mkS keyOk_str ?_
      refine awOps.rn ?_
      refine AW.seq ?_
      refine AW.rS ?_
      refine AW.block ?_
      refine AW.nilc 1 4 ?_
      refine AW.nilc 1 5 ?_
      refine wk ?_
      have harg : dictArg ps = true := by
        simp only [dictArg, Bool.and_eq_true, decide_eq_true_eq]
        exact ⟨by omega, fun j hj h2 => hs j (by omega) h2⟩
      refine AW.lk (S := { p : Nat × List (List UInt8) × Pob // p.1 % 2 = 0 ∧ p.1 ≤ ps.length ∧ incr p.2.2.keys ∧ p.2.2.keys.length = p.2.2.kids.length ∧ p.2.2.bulk ≤ 1 + 2 * bulks (ps.take p.1) ∧ dictL ps [] dict0 = dictL (ps.drop p.1) p.2.1 p.2.2 }) [0, 2, 5, 6] (fun s_ => [(7, .int .i64 s_.1.1)]) (fun s_ => [(0, .cells [.int .i64 0, .int .i64 0, .int .i64 0, .str [], .raw (.slice none 0 0), .raw (.slice none 0 0)]), (1, .cells [.int .i64 s_.1.2.2.kind, .int .i64 s_.1.2.2.num, .int .i64 s_.1.2.2.gen, .str s_.1.2.2.str, .sl (strsAV s_.1.2.2.keys), .sl (objsAV s_.1.2.2.kids)]), (2, setOf .str s_.1.2.1)]) 3 (fun s_ => ps.length - s_.1.1) ⟨(0, [], dict0), rfl, Nat.zero_le _, fun a b h h' => absurd h' (by simp [dict0, Pob.keys]), rfl, by simp [dict0, Pob.bulk, bulks], rfl⟩ ?_ ?_
      · refine St.le.vw [0, 1, 2]
      rintro ⟨⟨i, met, q⟩, hk0, hk1, hk2, hk3, hk4, hk5⟩
      try dsimp only at hk0
      try dsimp only at hk1
      try dsimp only at hk2
      try dsimp only at hk3
      try dsimp only at hk4
      try dsimp only at hk5
      refine AW.seq ?_
      refine AW.rS ?_
      refine AW.c2 ?_ ?_
      · intro h38
        have hb2 := bulks_take2 (ps := ps) (i := i) (by omega)
        have hb3 := bulks_take_le ps (i + 2)
        have hp1 := Pob.bulk_pos (ps.getD i Pob.null)
        have hw := Pob.withK_bulk q (ps.getD i Pob.null).str (ps.getD (i + 1) Pob.null)
        have hn := withK_incr (key := (ps.getD i Pob.null).str) (v := ps.getD (i + 1) Pob.null) hk2 hk3
        refine AW.skip ?_
        refine AW.seq ?_
        refine AW.block ?_
        refine AW.rS ?_
        refine AW.seq ?_
        refine AW.rSC ?_
        refine awOps.cons ?_
        refine awGuard.lkS keyOk_str ?_
        refine awOps.rn ?_
        refine AW.c2 ?_ ?_
        · intro h47
          refine AW.rS ?_
          refine AW.rt ?_
          have hd := dict_twice harg (by rw [hk5, dictL_drop (by omega), if_pos h47])
          rw [hd.1, hd.2]; rfl
        · intro h47
          refine AW.skip ?_
          refine AW.rSC ?_
          refine awOps.cons ?_
          refine awGuard.upS keyOk_str ?_
          refine awOps.rn ?_
          refine AW.rS ?_
          refine AW.c2 ?_ ?_
          · intro h56
            refine AW.dLC [(0, 1), (1, 0), (2, 0), (3, 0), (4, 0), (5, 0), (6, 1), (7, 2), (8, 2)] ?_
            refine awPlan.only rfl ?_
            refine awGuard.c1 (c_value_with _ q (ps.getD i Pob.null).str (ps.getD (i + 1) Pob.null) (by omega) hk2 hk3) ?_
            refine awPlan.rn ?_
            refine AW.rL ?_
            refine ⟨⟨(i + 2, setAdd met (ps.getD i Pob.null).str, q.withK (ps.getD i Pob.null).str (ps.getD (i + 1) Pob.null)), by dsimp only; omega, by dsimp only; omega, hn.1, hn.2, by dsimp only; omega, by rw [hk5, dictL_drop (by omega), if_neg h47, if_pos h56]⟩, ?_, ?_⟩
            · refine St.le.vw [0, 1, 2]
            · simp only []; omega
          · intro h56
            refine AW.skip ?_
            refine AW.rL ?_
            refine ⟨⟨(i + 2, setAdd met (ps.getD i Pob.null).str, q), by dsimp only; omega, by dsimp only; omega, hk2, hk3, by dsimp only; omega, by rw [hk5, dictL_drop (by omega), if_neg h47, if_neg (by simpa using h56)]⟩, ?_, ?_⟩
            · refine St.le.vw [0, 1, 2]
            · simp only []; omega
      · intro h38
        refine AW.exit ?_
        have hd := dict_some harg (o := q) (by rw [hk5, List.drop_of_length_le (by omega)]; simp [dictL])
        refine AW.rSC ?_
        refine awOps.cons (awGuard.c1 (c_value_Clone _ q (by have := bulks_take_le ps i; omega)) ?_)
        refine awOps.rn ?_
        refine awOps.cons (awGuard.c1 (c_value_sound2 _ q (by have := bulks_take_le ps i; omega)) ?_)
        refine awOps.rn ?_
        refine AW.rt ?_
        rw [hd.1, hd.2]
end Go.Proofs

namespace Go.Proofs
open Go Aw
set_option linter.unusedSimpArgs false
set_option linter.unusedVariables false
set_option maxRecDepth 100000
set_option maxHeartbeats 4000000

end Go.Proofs

namespace Go.Proofs
open Go Aw
set_option linter.unusedSimpArgs false
set_option linter.unusedVariables false
set_option maxRecDepth 100000
set_option maxHeartbeats 4000000

theorem c_docs_kind (gl : List (Nat × AV)) (o : Pob) (h : o.bulk ≤ 16777216 := by first | omega | exact u8_le _ | assumption | (simp; done) | (simp; omega)) : FnP Tryz.prog (gl) 147 [.agg o.cells] fun r => r = .ret (.str (docKind o)) := by
  refine FnP.intro Tryz.func147 rfl rfl (by simp [Tryz.ntmps147]) ?_
  simp only [argEnv, Tryz.ntmps147, Tryz.results147]
  refine AW.rS ?_
  refine AW.rSC ?_
  refine awOps.cons (awGuard.c1 (c_value_Get ..) ?_)
  refine awOps.rn ?_
  refine AW.seq ?_
  refine AW.rS ?_
  refine AW.c2 ?_ ?_
  · intro h7
    refine AW.rS ?_
    refine AW.rt ?_
    simp_all [docKind, typeK]
  · intro h7
    refine AW.skip ?_
    refine AW.rS ?_
    refine AW.rt ?_
    simp_all [docKind, typeK]
theorem c_docs_holds (gl : List (Nat × AV)) (o : Pob) (h : o.bulk ≤ 16777216 := by first | omega | exact u8_le _ | assumption | (simp; done) | (simp; omega)) : FnP Tryz.prog (gl) 129 [.agg o.cells] fun r => r = .ret (.bool (holdsB o)) := by
  refine FnP.intro Tryz.func129 rfl rfl (by simp [Tryz.ntmps129]) ?_
  simp only [argEnv, Tryz.ntmps129, Tryz.results129]
  refine AW.rS ?_
  refine AW.rSC ?_
  refine awOps.cons (awGuard.cG (fun hg => c_docs_kind ..) ?_)
  refine awOps.rn ?_
  refine awOps.cons (awGuard.cG (fun hg => c_docs_kind ..) ?_)
  refine awOps.rn ?_
  refine AW.rt ?_
  simp_all [holdsB]
theorem c_docs_content (gl : List (Nat × AV)) (i : Itm) (h : i.obj.bulk ≤ 16777216 := by first | omega | exact u8_le _ | assumption | (simp; done) | (simp; omega)) : FnP Tryz.prog (gl) 104 [.agg i.cells] fun r => r = .ret (.int .i64 (contentE i)) := by
  refine FnP.intro Tryz.func104 rfl rfl (by simp [Tryz.ntmps104]) ?_
  simp only [argEnv, Tryz.ntmps104, Tryz.results104]
  refine AW.rS ?_
  refine AW.seq ?_
  refine AW.rSC ?_
  refine awOps.cons (awGuard.c1 (c_value_Check _ i.obj) ?_)
  refine awOps.rn ?_
  refine AW.rS ?_
  refine AW.c2 ?_ ?_
  · intro h7
    refine AW.rS ?_
    refine AW.rt ?_
    · rw [content_bad h7]
    all_goals first | contradiction | rfl | (simp; done) | (simp; omega)
  · intro h7
    refine AW.skip ?_
    refine AW.seq ?_
    refine AW.rSC ?_
    refine awOps.cons (awGuard.cG (fun hg => c_docs_holds _ i.obj) ?_)
    refine awOps.rn ?_
    refine AW.c2 ?_ ?_
    · intro h16
      refine AW.rS ?_
      refine AW.rt ?_
      simp only [contentE]; simp_all
    · intro h16
      refine AW.skip ?_
      refine AW.rS ?_
      refine AW.rt ?_
      simp only [contentE]; simp_all
theorem c_docs_alone (gl : List (Nat × AV)) (i : Itm) (h : i.obj.bulk ≤ 16777216 := by first | omega | exact u8_le _ | assumption | (simp; done) | (simp; omega)) : FnP Tryz.prog (gl) 91 [.agg i.cells] fun r => r = .ret (.int .i64 (aloneE i)) := by
  refine FnP.intro Tryz.func91 rfl rfl (by simp [Tryz.ntmps91]) ?_
  simp only [argEnv, Tryz.ntmps91, Tryz.results91]
  refine AW.rS ?_
  refine AW.seq ?_
  refine AW.rSC ?_
  refine awOps.cons (awGuard.c1 (c_docs_numbers _ i) ?_)
  refine awOps.rn ?_
  refine AW.c2 ?_ ?_
  · intro h6
    refine AW.rS ?_
    refine AW.rt ?_
    rw [aloneE, if_pos (nums_no h6)]
  · intro h6
    refine AW.skip ?_
    refine AW.rSC ?_
    refine awOps.cons (awGuard.c1 (c_docs_content _ i) ?_)
    refine awOps.rn ?_
    refine AW.rt ?_
    rw [aloneE, if_neg (by rw [nums_yes h6]; simp)]
theorem c_docs_items (gl : List (Nat × AV)) (l : List Itm) (h : ibulk l ≤ 16777216) : FnP Tryz.prog (gl) 71 [.sl (itemsAV l)] fun r => r = .ret (.int .i64 (itemsE l)) := by
  refine FnP.intro Tryz.func71 rfl rfl (by simp [Tryz.ntmps71]) ?_
  simp only [argEnv, Tryz.ntmps71, Tryz.results71]
  have hlen := ibulk_len l
  refine AW.rS ?_
  refine AW.seq ?_
  refine AW.rS ?_
  refine AW.block ?_
  refine AW.lk (S := { k : Nat // k ≤ l.length ∧ itemsE l = itemsFrom l k (l.length - k) }) [0, 6, 7] (fun s_ => [(8, .int .i64 s_.1)]) (fun s_ => []) 0 (fun s_ => l.length - s_.1) ⟨0, Nat.zero_le _, rfl⟩ ?_ ?_
  · refine St.le.vw []
  rintro ⟨k, hk, hs⟩
  try dsimp only at hk
  try dsimp only at hs
  refine AW.rS ?_
  refine AW.seq ?_
  refine AW.c2 ?_ ?_
  · intro h8
    have hgb := ibulk_get (l := l) (i := k) (by omega)
    refine AW.skip ?_
    refine AW.seq ?_
    refine AW.block ?_
    refine AW.rS ?_
    refine AW.seq ?_
    refine AW.block ?_
    refine AW.rSC ?_
    refine awOps.cons (awGuard.c1 (c_docs_numbers _ (l.getD k Itm.zero)) ?_)
    refine awOps.rn ?_
    refine AW.c2 ?_ ?_
    · intro h18
      refine AW.rS ?_
      refine AW.rt ?_
      rw [hs, itemsFrom_step h8, if_pos (nums_no h18)]
    · intro h18
      refine AW.dS [(0, 0), (1, 0), (2, 0), (3, 0), (4, 1), (5, 0), (6, 0), (7, 0), (8, 1), (9, 0), (10, 1), (11, 0), (12, 0), (13, 0)] ?_
      refine AW.c2 ?_ ?_
      · intro h23
        refine AW.rS ?_
        refine AW.rt ?_
        rw [hs, itemsFrom_step h8, if_neg (by rw [nums_yes h18]; simp), if_pos (by omega)]
      · intro h23
        refine AW.skip ?_
        refine AW.rSC ?_
        refine awOps.cons (awGuard.c1 (c_docs_content _ (l.getD k Itm.zero)) ?_)
        refine awOps.rn ?_
        refine AW.rS ?_
        refine AW.c2 ?_ ?_
        · intro h32
          refine AW.rS ?_
          refine AW.rt ?_
          rw [hs, itemsFrom_step h8, if_neg (by rw [nums_yes h18]; simp), if_neg (by omega), if_pos h32]
        · intro h32
          refine AW.skip ?_
          refine AW.rL ?_
          refine ⟨⟨k + 1, by omega, by rw [hs, itemsFrom_step (by omega), if_neg (by rw [nums_yes h18]; simp), if_neg (by omega), if_neg (by simpa using h32)]⟩, ?_, ?_⟩
          · refine St.le.vw []
          · simp only []; omega
  · intro h8
    refine AW.exit ?_
    refine AW.rS ?_
    refine AW.rt ?_
    rw [hs, show l.length - k = 0 from by omega, itemsFrom]
end Go.Proofs

namespace Go.Proofs
open Go Aw
set_option linter.unusedSimpArgs false
set_option linter.unusedVariables false
set_option maxRecDepth 100000
set_option maxHeartbeats 4000000

theorem c_docs_Follow_1 (gl : List (Nat × AV)) (i : Itm) (o : Pob) : FnP Tryz.prog (gl) 99 [.agg i.cells, .tptr o.cells] fun r => r = .ret (.bool (decide (i.num = o.num))) := by
  refine FnP.intro Tryz.func99 rfl rfl (by simp [Tryz.ntmps99]) ?_
  simp only [argEnv, Tryz.ntmps99, Tryz.results99]
  refine AW.rS ?_
  refine AW.rS ?_
  refine AW.rt ?_
  all_goals first | contradiction | rfl | (simp; done) | (simp; omega)
theorem c_IndexFunc_Follow (gl : List (Nat × AV)) (l : List Itm) (o : Pob) (hl : l.length ≤ 16777216 := by first | omega | exact u8_le _ | assumption | (simp; done) | (simp; omega)) : FnP Tryz.prog (gl) 75 [.sl (itemsAV l), .clos 99 [.tptr o.cells]] fun r => r = .ret (.int .i64 (iidxI l o.num)) := by
  refine FnP.intro Tryz.func75 rfl rfl (by simp [Tryz.ntmps75]) ?_
  simp only [argEnv, Tryz.ntmps75, Tryz.results75]
  refine AW.rS ?_
  refine AW.seq ?_
  refine AW.rS ?_
  refine AW.block ?_
  refine AW.lk (S := { i : Nat // i ≤ l.length ∧ ∀ j, j < i → (l.getD j Itm.zero).num ≠ o.num }) [0, 1, 7] (fun s_ => [(8, .int .i64 s_.1)]) (fun s_ => []) 0 (fun s_ => l.length - s_.1) ⟨0, Nat.zero_le _, fun j h => absurd h (by omega)⟩ ?_ ?_
  · refine St.le.vw []
  rintro ⟨i, hi, hs⟩
  try dsimp only at hi
  try dsimp only at hs
  refine AW.rS ?_
  refine AW.seq ?_
  refine AW.c2 ?_ ?_
  · intro h8
    refine AW.skip ?_
    refine AW.seq ?_
    refine AW.block ?_
    refine AW.rS ?_
    refine AW.rSC ?_
    refine awOps.cons (awGuard.c1 (c_docs_Follow_1 _ (l.getD i Itm.zero) o) ?_)
    refine awOps.rn ?_
    refine AW.c2 ?_ ?_
    · intro h16
      refine AW.rS ?_
      refine AW.rt ?_
      rw [iidx_hit h8 hs h16]
    · intro h16
      refine AW.skip ?_
      refine AW.rL ?_
      refine ⟨⟨i + 1, by omega, fun j hj => (Nat.lt_or_ge j i).elim (hs j) (fun h => (show j = i by omega) ▸ h16)⟩, ?_, ?_⟩
      · refine St.le.vw []
      · simp only []; omega
  · intro h8
    refine AW.exit ?_
    refine AW.rS ?_
    refine AW.rt ?_
    rw [iidx_miss (fun j hj => hs j (by omega))]
theorem c_docs_Follow (gl : List (Nat × AV)) (d : Dc) (o : Pob) (h : d.bulk ≤ 16777216 := by first | omega | exact u8_le _ | assumption | (simp; done) | (simp; omega)) (ho : o.bulk ≤ 16777216 := by first | omega | exact u8_le _ | assumption | (simp; done) | (simp; omega)) : FnP Tryz.prog (gl) 62 [.agg d.cells, .agg o.cells] fun r => r = .ret (.agg (followO d o).cells) := by
  refine FnP.intro Tryz.func62 rfl rfl (by simp [Tryz.ntmps62]) ?_
  simp only [argEnv, Tryz.ntmps62, Tryz.results62]
  have hlen := ibulk_len d.items
  have hlt := iidxI_lt (l := d.items) (n := o.num)
  simp only [Dc.bulk] at h
  refine AW.rS ?_
  refine AW.seq ?_
  refine AW.rS ?_
  refine AW.c2 ?_ ?_
  · intro h4
    refine AW.rSC ?_
    refine awOps.cons (awGuard.c1 (c_value_Clone _ o ho) ?_)
    refine awOps.rn ?_
    refine AW.rt ?_
    rw [followO, if_pos h4]
  · intro h4
    refine AW.skip ?_
    refine AW.rSC ?_
    refine awOps.cons (awGuard.c1 (c_IndexFunc_Follow _ d.items o (by omega)) ?_)
    refine awOps.rn ?_
    refine AW.seq ?_
    by_cases hs15 : 0 ≤ iidxI d.items o.num
    · skip
      refine AW.dS [(0, 0), (1, 0), (2, 0), (3, 0), (4, 1), (5, 0), (6, 1), (7, 0), (8, 1), (9, 0), (10, 1), (11, 0), (12, 0)] ?_
      refine AW.c2 ?_ ?_
      · intro h16
        refine AW.rS ?_
        refine AW.rt ?_
        have hf : followO d o = Pob.null := by simp only [followO]; grind
        rw [hf]; rfl
      · intro h16
        refine AW.skip ?_
        refine AW.rSC ?_
        refine awOps.cons (awGuard.c1 (c_value_Clone _ (d.items.getD (iidxI d.items o.num).toNat Itm.zero).obj (by have := ibulk_get (l := d.items) (i := (iidxI d.items o.num).toNat) (by omega); omega)) ?_)
        refine awOps.rn ?_
        refine AW.rt ?_
        have hf : followO d o = (d.items.getD (iidxI d.items o.num).toNat Itm.zero).obj := by simp only [followO]; grind
        rw [hf]
    · skip
      by_cases hs15 : 0 < d.items.length
      · skip
        refine AW.dS [(0, 0), (1, 0), (2, 0), (3, 0), (4, 1), (5, 0), (6, 1), (7, 0), (8, 1), (9, 0), (10, 1), (11, 0), (12, 0)] ?_
        refine AW.c2 ?_ ?_
        · intro h16
          refine AW.rS ?_
          refine AW.rt ?_
          have hf : followO d o = Pob.null := by simp only [followO]; grind
          rw [hf]; rfl
        · intro h16
          exfalso; first | omega | (simp at h16; omega)
      · skip
        refine AW.dS [(0, 0), (1, 0), (2, 0), (3, 0), (4, 1), (5, 0), (6, 1), (7, 0), (8, 1), (9, 0), (10, 1), (11, 0), (12, 0)] ?_
        refine AW.c2 ?_ ?_
        · intro h16
          refine AW.rS ?_
          refine AW.rt ?_
          have hf : followO d o = Pob.null := by simp only [followO]; grind
          rw [hf]; rfl
        · intro h16
          exfalso; first | omega | (simp at h16; omega)
end Go.Proofs

namespace Go.Proofs
open Go Aw
set_option linter.unusedSimpArgs false
set_option linter.unusedVariables false
set_option maxRecDepth 100000
set_option maxHeartbeats 4000000

theorem c_cmp_isNaN_int (gl : List (Nat × AV)) (n : Int) : FnP Tryz.prog (gl) 152 [.int .i64 n] fun r => r = .ret (.bool false) := by
  refine FnP.intro Tryz.func152 rfl rfl (by simp [Tryz.ntmps152]) ?_
  simp only [argEnv, Tryz.ntmps152, Tryz.results152]
  refine AW.rS ?_
  refine AW.rS ?_
  refine AW.rt ?_
  all_goals first | contradiction | rfl | (simp; done) | (simp; omega)
theorem c_cmp_Compare_int (gl : List (Nat × AV)) (x y : Int) : FnP Tryz.prog (gl) 136 [.int .i64 x, .int .i64 y] fun r => r = .ret (.int .i64 (cmpI x y)) := by
  refine FnP.intro Tryz.func136 rfl rfl (by simp [Tryz.ntmps136]) ?_
  simp only [argEnv, Tryz.ntmps136, Tryz.results136]
  refine AW.rS ?_
  refine AW.rSC ?_
  refine awOps.cons (awGuard.c1 (c_cmp_isNaN_int _ x) ?_)
  refine awOps.rn ?_
  refine AW.rSC ?_
  refine awOps.cons (awGuard.c1 (c_cmp_isNaN_int _ y) ?_)
  refine awOps.rn ?_
  refine AW.seq ?_
  refine AW.rS ?_
  refine AW.c2 ?_ ?_
  · intro h10
    refine AW.seq ?_
    refine AW.rS ?_
    refine AW.c2 ?_ ?_
    · intro h13
      refine AW.rS ?_
      refine AW.rt ?_
      all_goals first | contradiction | rfl | (simp; done) | (simp; omega)
    · intro h13
      refine AW.skip ?_
      refine AW.rS ?_
      refine AW.rt ?_
      all_goals first | contradiction | rfl | (simp; done) | (simp; omega)
  · intro h10
    refine AW.skip ?_
    refine AW.seq ?_
    refine AW.rS ?_
    refine AW.c2 ?_ ?_
    · intro h24
      refine AW.rS ?_
      refine AW.rt ?_
      all_goals first | contradiction | rfl | (simp; done) | (simp; omega)
    · intro h24
      refine AW.skip ?_
      refine AW.seq ?_
      refine AW.rS ?_
      refine AW.c2 ?_ ?_
      · intro h31
        refine AW.rS ?_
        refine AW.rt ?_
        rw [cmpI, if_pos h31]
      · intro h31
        refine AW.skip ?_
        refine AW.seq ?_
        refine AW.rS ?_
        refine AW.c2 ?_ ?_
        · intro h38
          refine AW.rS ?_
          refine AW.rt ?_
          rw [cmpI, if_neg (by omega), if_pos h38]
        · intro h38
          refine AW.skip ?_
          refine AW.rS ?_
          refine AW.rt ?_
          rw [cmpI, if_neg (by omega), if_neg (by omega)]
theorem c_docs_byNum (gl : List (Nat × AV)) (i : Itm) (n : Int) : FnP Tryz.prog (gl) 121 [.agg i.cells, .int .i64 n] fun r => r = .ret (.int .i64 (cmpI i.num n)) := by
  refine FnP.intro Tryz.func121 rfl rfl (by simp [Tryz.ntmps121]) ?_
  simp only [argEnv, Tryz.ntmps121, Tryz.results121]
  refine AW.rS ?_
  refine AW.rSC ?_
  refine awOps.cons (awGuard.c1 (c_cmp_Compare_int _ i.num n) ?_)
  refine awOps.rn ?_
  refine AW.rt ?_
  all_goals first | contradiction | rfl | (simp; done) | (simp; omega)
theorem cmpI_neg {x y : Int} : (cmpI x y < 0) = (x < y) := by
  unfold cmpI
  by_cases h : x < y
  · simp [h]
  · by_cases h' : y < x <;> simp [h, h']
theorem cmpI_zero {x y : Int} : (cmpI x y = 0) = (x = y) := by
  unfold cmpI
  by_cases h : x < y
  · simp [h]; omega
  · by_cases h' : y < x
    · simp [h, h']; omega
    · simp [h, h']; omega
theorem c_BinSearch_Item (gl : List (Nat × AV)) (l : List Itm) (n : Int) (hl : l.length ≤ 16777216 := by first | omega | exact u8_le _ | assumption | (simp; done) | (simp; omega)) (hs : incrN l := by first | omega | exact u8_le _ | assumption | (simp; done) | (simp; omega)) : FnP Tryz.prog (gl) 120 [.sl (itemsAV l), .int .i64 n, .clos 121 []] fun r => r = .ret (.tup [.int .i64 (iplace l n), .bool (ithere l n)]) := by
  refine FnP.intro Tryz.func120 rfl rfl (by simp [Tryz.ntmps120]) ?_
  simp only [argEnv, Tryz.ntmps120, Tryz.results120]
  refine AW.rS ?_
  refine AW.rS ?_
  refine AW.rS ?_
  refine AW.seq ?_
  refine AW.block ?_
  refine AW.lk (S := { p : Nat × Nat // p.1 ≤ p.2 ∧ p.2 ≤ l.length ∧ (∀ a, a < p.1 → (l.getD a Itm.zero).num < n) ∧ (∀ a, p.2 ≤ a → a < l.length → n ≤ (l.getD a Itm.zero).num) }) [0, 1, 2, 8] (fun s_ => [(9, .int .i64 s_.1.1), (10, .int .i64 s_.1.2)]) (fun s_ => []) 0 (fun s_ => s_.1.2 - s_.1.1) ⟨(0, l.length), Nat.zero_le _, Nat.le_refl _, fun a h => absurd h (by omega), fun a h h' => absurd h' (by omega)⟩ ?_ ?_
  · refine St.le.vw []
  rintro ⟨⟨i, j⟩, h1, h2, h3, h4⟩
  try dsimp only at h1
  try dsimp only at h2
  try dsimp only at h3
  try dsimp only at h4
  refine AW.seq ?_
  refine AW.rS ?_
  refine AW.c2 ?_ ?_
  · intro h9
    refine AW.skip ?_
    refine AW.block ?_
    refine AW.rS ?_
    refine AW.rSC ?_
    refine awOps.cons (awGuard.c1 (c_docs_byNum _ (l.getD ((i + j) / 2) Itm.zero) n) ?_)
    refine awOps.rn ?_
    refine AW.c2 ?_ ?_
    · intro h16
      rw [cmpI_neg] at h16
      refine AW.rL ?_
      refine ⟨⟨((i + j) / 2 + 1, j), by dsimp only; omega, h2, fun a ha => ibs_lo hs h16 (by omega) (by dsimp only at ha; omega), h4⟩, ?_, ?_⟩
      · refine St.le.vw []
      · simp only []; omega
    · intro h16
      have h16' : n ≤ (l.getD ((i + j) / 2) Itm.zero).num := by have := @cmpI_neg (l.getD ((i + j) / 2) Itm.zero).num n; by_cases hh : (l.getD ((i + j) / 2) Itm.zero).num < n; rw [← this] at hh; omega; omega
      refine AW.rL ?_
      refine ⟨⟨(i, (i + j) / 2), by dsimp only; omega, by dsimp only; omega, h3, fun a ha hb => ibs_hi hs h16' (by dsimp only at ha; omega) hb⟩, ?_, ?_⟩
      · refine St.le.vw []
      · simp only []; omega
  · intro h9
    refine AW.exit ?_
    obtain rfl : i = j := by omega
    have hkp := iplace_eq h2 h3 (fun h => h4 _ (Nat.le_refl _) h)
    by_cases hs22 : i < l.length
    · skip
      refine AW.rSC ?_
      refine awOps.cons (awGuard.cG (fun hg => c_docs_byNum _ (l.getD i Itm.zero) n) ?_)
      refine awOps.rn ?_
      refine AW.rt ?_
      rw [ithere_eq hkp, hkp]
      simp [hs22, cmpI_zero]
    · skip
      refine AW.rSC ?_
      refine awOps.cons (awGuard.gF (.int .i64 0) ?_ ?_)
      · simp [hs22]
      refine awOps.rn ?_
      refine AW.rt ?_
      rw [ithere_eq hkp, hkp]
      simp [hs22, cmpI_zero]
theorem h_BinSearch_Item (gl : List (Nat × AV)) (l : List Itm) (q : Int) (hl : l.length ≤ 16777216 := by first | omega | exact u8_le _ | assumption | (simp; done) | (simp; omega)) (hs : incrN l := by first | omega | exact u8_le _ | assumption | (simp; done) | (simp; omega)) : FnH Tryz.prog (gl) 120 [.row 0 0 l.length, .int .i64 q, .clos 121 []] ([(0, .row 8 (itemsAV l) true)]) 1 (fun r h n => r = .ret (.tup [.int .i64 (iplace l q), .bool (ithere l q)]) ∧ h = [(0, .row 8 (itemsAV l) true)] ∧ n = 1) := by
  refine FnH.intro Tryz.func120 rfl rfl (by simp [Tryz.ntmps120]) ?_
  simp only [argEnv, Tryz.ntmps120, Tryz.results120]
  refine AW.rS ?_
  refine AW.rS ?_
  refine AW.rS ?_
  refine AW.seq ?_
  refine AW.block ?_
  refine AW.lk (S := { p : Nat × Nat // p.1 ≤ p.2 ∧ p.2 ≤ l.length ∧ (∀ a, a < p.1 → (l.getD a Itm.zero).num < q) ∧ (∀ a, p.2 ≤ a → a < l.length → q ≤ (l.getD a Itm.zero).num) }) [0, 1, 2, 8] (fun s_ => [(9, .int .i64 s_.1.1), (10, .int .i64 s_.1.2)]) (fun s_ => [(0, .row 8 (itemsAV l) true)]) 1 (fun s_ => s_.1.2 - s_.1.1) ⟨(0, l.length), Nat.zero_le _, Nat.le_refl _, fun a h => absurd h (by omega), fun a h h' => absurd h' (by omega)⟩ ?_ ?_
  · refine St.le.vw [0]
  rintro ⟨⟨i, j⟩, h1, h2, h3, h4⟩
  try dsimp only at h1
  try dsimp only at h2
  try dsimp only at h3
  try dsimp only at h4
  refine AW.seq ?_
  refine AW.rS ?_
  refine AW.c2 ?_ ?_
  · intro h9
    refine AW.skip ?_
    refine AW.block ?_
    refine AW.rS ?_
    refine AW.rSC ?_
    refine awOps.cons (awGuard.c1 (c_docs_byNum _ (l.getD ((i + j) / 2) Itm.zero) q) ?_)
    refine awOps.rn ?_
    refine AW.c2 ?_ ?_
    · intro h16
      rw [cmpI_neg] at h16
      refine AW.rL ?_
      refine ⟨⟨((i + j) / 2 + 1, j), by dsimp only; omega, h2, fun a ha => ibs_lo hs h16 (by omega) (by dsimp only at ha; omega), h4⟩, ?_, ?_⟩
      · refine St.le.vw [0]
      · simp only []; omega
    · intro h16
      have h16' : q ≤ (l.getD ((i + j) / 2) Itm.zero).num := by have := @cmpI_neg (l.getD ((i + j) / 2) Itm.zero).num q; by_cases hh : (l.getD ((i + j) / 2) Itm.zero).num < q; rw [← this] at hh; omega; omega
      refine AW.rL ?_
      refine ⟨⟨(i, (i + j) / 2), by dsimp only; omega, by dsimp only; omega, h3, fun a ha hb => ibs_hi hs h16' (by dsimp only at ha; omega) hb⟩, ?_, ?_⟩
      · refine St.le.vw [0]
      · simp only []; omega
  · intro h9
    refine AW.exit ?_
    obtain rfl : i = j := by omega
    have hkp := iplace_eq h2 h3 (fun h => h4 _ (Nat.le_refl _) h)
    by_cases hs22 : i < l.length
    · skip
      refine AW.rSC ?_
      refine awOps.cons (awGuard.cG (fun hg => c_docs_byNum _ (l.getD i Itm.zero) q) ?_)
      refine awOps.rn ?_
      refine AW.rt ?_
      rw [ithere_eq hkp, hkp]
      simp [hs22, cmpI_zero]
    · skip
      refine AW.rSC ?_
      refine awOps.cons (awGuard.gF (.int .i64 0) ?_ ?_)
      · simp [hs22]
      refine awOps.rn ?_
      refine AW.rt ?_
      rw [ithere_eq hkp, hkp]
      simp [hs22, cmpI_zero]
end Go.Proofs

namespace Go.Proofs
open Go Aw
set_option linter.unusedSimpArgs false
set_option linter.unusedVariables false
set_option maxRecDepth 100000
set_option maxHeartbeats 4000000

theorem c_docs_known (gl : List (Nat × AV))  : FnP Tryz.prog (gl) 106 [] fun r => r = .ret (.sl (strsAV trailK)) := by
  refine FnP.intro Tryz.func106 rfl rfl (by simp [Tryz.ntmps106]) ?_
  simp only [argEnv, Tryz.ntmps106, Tryz.results106]
  refine AW.rS ?_
  refine AW.rS ?_
  refine AW.rt ?_
  all_goals first | contradiction | rfl | (simp; done) | (simp; omega)
theorem c_slices_Contains_string_string (gl : List (Nat × AV)) (ks : List (List UInt8)) (k : List UInt8) (h : ks.length ≤ 16777216 := by first | omega | exact u8_le _ | assumption | (simp; done) | (simp; omega)) : FnP Tryz.prog (gl) 105 [.sl (strsAV ks), .str k] fun r => r = .ret (.bool (decide (0 ≤ kidxI ks k))) := by
  refine FnP.intro Tryz.func105 rfl rfl (by simp [Tryz.ntmps105]) ?_
  simp only [argEnv, Tryz.ntmps105, Tryz.results105]
  refine AW.rS ?_
  refine AW.rSC ?_
  refine awOps.cons (awGuard.c1 (c_slices_Index_string_string _ ks k) ?_)
  refine awOps.rn ?_
  refine AW.rt ?_
  all_goals first | contradiction | rfl | (simp; done) | (simp; omega)
theorem c_docs_trail (gl : List (Nat × AV)) (d : Dc) (h : d.bulk ≤ 16777216 := by first | omega | exact u8_le _ | assumption | (simp; done) | (simp; omega)) : FnP Tryz.prog (gl) 72 [.agg d.cells] fun r => r = .ret (.int .i64 (trailE d)) := by
  refine FnP.intro Tryz.func72 rfl rfl (by simp [Tryz.ntmps72]) ?_
  simp only [argEnv, Tryz.ntmps72, Tryz.results72]
  have h0 := h
  simp only [Dc.bulk] at h
  have hkb := Pob.bulk_eq d.trailer
  have hrb := get_bulk d.trailer rootK
  refine AW.rS ?_
  refine AW.seq ?_
  refine AW.rSC ?_
  refine awOps.cons (awGuard.c1 (c_value_Check _ d.trailer) ?_)
  refine awOps.rn ?_
  refine AW.rS ?_
  refine AW.c2 ?_ ?_
  · intro h7
    refine AW.rS ?_
    refine AW.rt ?_
    rw [trail_bad h7]
  · intro h7
    refine AW.skip ?_
    refine AW.seq ?_
    refine AW.rS ?_
    refine AW.c2 ?_ ?_
    · intro h14
      refine AW.rS ?_
      refine AW.rt ?_
      rw [trail_kind h7 h14]
    · intro h14
      refine AW.skip ?_
      refine AW.seq ?_
      refine AW.rS ?_
      refine AW.block ?_
      refine AW.lk (S := { i : Nat // i ≤ d.trailer.keys.length ∧ ∀ j, j < i → 0 ≤ kidxI trailK (d.trailer.keys.getD j []) }) [1, 20, 21] (fun s_ => [(22, .int .i64 s_.1)]) (fun s_ => [(0, .cells d.cells)]) 1 (fun s_ => d.trailer.keys.length - s_.1) ⟨0, Nat.zero_le _, fun j h => absurd h (by omega)⟩ ?_ ?_
      · refine St.le.vw [0]
      rintro ⟨i, hi, hs⟩
      try dsimp only at hi
      try dsimp only at hs
      refine AW.rS ?_
      refine AW.seq ?_
      refine AW.c2 ?_ ?_
      · intro h25
        refine AW.skip ?_
        refine AW.seq ?_
        refine AW.block ?_
        refine AW.rS ?_
        refine AW.rSC ?_
        refine awOps.cons (awGuard.c1 (c_docs_known ..) ?_)
        refine awOps.rn ?_
        refine awOps.cons (awGuard.c1 (c_slices_Contains_string_string _ trailK (d.trailer.keys.getD i []) (by decide)) ?_)
        refine awOps.rn ?_
        refine AW.c2 ?_ ?_
        · intro h35
          refine AW.rS ?_
          refine AW.rt ?_
          rw [trail_key h7 h14 (fun hh => by have := hh i h25; omega)]
        · intro h35
          refine AW.skip ?_
          refine AW.rL ?_
          refine ⟨⟨i + 1, by omega, fun j hj => (Nat.lt_or_ge j i).elim (hs j) (fun h => (show j = i by omega) ▸ h35)⟩, ?_, ?_⟩
          · refine St.le.vw [0]
          · simp only []; omega
      · intro h25
        refine AW.exit ?_
        have htk : trailOk d.trailer.keys := fun j hj => hs j (by omega)
        refine AW.rSC ?_
        refine awOps.cons (awGuard.c1 (c_value_Get _ d.trailer rootK) ?_)
        refine awOps.rn ?_
        refine AW.seq ?_
        refine AW.rSC ?_
        refine awOps.cons (awGuard.cG (fun hg => c_docs_Follow _ d (getO d.trailer rootK) h0 (by omega)) ?_)
        refine awOps.rn ?_
        refine AW.c2 ?_ ?_
        · intro h50
          refine AW.rS ?_
          refine AW.rt ?_
          rw [trail_root h7 h14 htk, if_pos h50]
        · intro h50
          refine AW.skip ?_
          refine AW.rS ?_
          refine AW.rt ?_
          rw [trail_root h7 h14 htk, if_neg (by simp [h50])]
theorem c_docs_Check (gl : List (Nat × AV)) (d : Dc) (h : d.bulk ≤ 16777216 := by first | omega | exact u8_le _ | assumption | (simp; done) | (simp; omega)) : FnP Tryz.prog (gl) 41 [.agg d.cells] fun r => r = .ret (.int .i64 (docE d)) := by
  refine FnP.intro Tryz.func41 rfl rfl (by simp [Tryz.ntmps41]) ?_
  simp only [argEnv, Tryz.ntmps41, Tryz.results41]
  refine AW.rS ?_
  refine AW.seq ?_
  refine AW.rSC ?_
  refine awOps.cons (awGuard.c1 (c_docs_items _ d.items (by simp only [Dc.bulk] at h; omega)) ?_)
  refine awOps.rn ?_
  refine AW.rS ?_
  refine AW.c2 ?_ ?_
  · intro h7
    refine AW.rS ?_
    refine AW.rt ?_
    rw [doc_bad h7]
  · intro h7
    refine AW.skip ?_
    refine AW.rSC ?_
    refine awOps.cons (awGuard.c1 (c_docs_trail _ d h) ?_)
    refine awOps.rn ?_
    refine AW.rt ?_
    rw [doc_trail h7]
theorem c_docs_Get_1 (gl : List (Nat × AV)) (i : Itm) (n : Int) : FnP Tryz.prog (gl) 76 [.agg i.cells, .tptr [.int .i64 n]] fun r => r = .ret (.bool (decide (i.num = n))) := by
  refine FnP.intro Tryz.func76 rfl rfl (by simp [Tryz.ntmps76]) ?_
  simp only [argEnv, Tryz.ntmps76, Tryz.results76]
  refine AW.rS ?_
  refine AW.rS ?_
  refine AW.rt ?_
  all_goals first | contradiction | rfl | (simp; done) | (simp; omega)
theorem c_IndexFunc_Get (gl : List (Nat × AV)) (l : List Itm) (n : Int) (hl : l.length ≤ 16777216 := by first | omega | exact u8_le _ | assumption | (simp; done) | (simp; omega)) : FnP Tryz.prog (gl) 75 [.sl (itemsAV l), .clos 76 [.tptr [.int .i64 n]]] fun r => r = .ret (.int .i64 (iidxI l n)) := by
  refine FnP.intro Tryz.func75 rfl rfl (by simp [Tryz.ntmps75]) ?_
  simp only [argEnv, Tryz.ntmps75, Tryz.results75]
  refine AW.rS ?_
  refine AW.seq ?_
  refine AW.rS ?_
  refine AW.block ?_
  refine AW.lk (S := { i : Nat // i ≤ l.length ∧ ∀ j, j < i → (l.getD j Itm.zero).num ≠ n }) [0, 1, 7] (fun s_ => [(8, .int .i64 s_.1)]) (fun s_ => []) 0 (fun s_ => l.length - s_.1) ⟨0, Nat.zero_le _, fun j h => absurd h (by omega)⟩ ?_ ?_
  · refine St.le.vw []
  rintro ⟨i, hi, hs⟩
  try dsimp only at hi
  try dsimp only at hs
  refine AW.rS ?_
  refine AW.seq ?_
  refine AW.c2 ?_ ?_
  · intro h8
    refine AW.skip ?_
    refine AW.seq ?_
    refine AW.block ?_
    refine AW.rS ?_
    refine AW.rSC ?_
    refine awOps.cons (awGuard.c1 (c_docs_Get_1 _ (l.getD i Itm.zero) n) ?_)
    refine awOps.rn ?_
    refine AW.c2 ?_ ?_
    · intro h16
      refine AW.rS ?_
      refine AW.rt ?_
      rw [iidx_hit h8 hs h16]
    · intro h16
      refine AW.skip ?_
      refine AW.rL ?_
      refine ⟨⟨i + 1, by omega, fun j hj => (Nat.lt_or_ge j i).elim (hs j) (fun h => (show j = i by omega) ▸ h16)⟩, ?_, ?_⟩
      · refine St.le.vw []
      · simp only []; omega
  · intro h8
    refine AW.exit ?_
    refine AW.rS ?_
    refine AW.rt ?_
    rw [iidx_miss (fun j hj => hs j (by omega))]
theorem c_docs_Get (gl : List (Nat × AV)) (d : Dc) (n : Int) (h : d.bulk ≤ 16777216 := by first | omega | exact u8_le _ | assumption | (simp; done) | (simp; omega)) : FnP Tryz.prog (gl) 43 [.agg d.cells, .int .i64 n] fun r => r = .ret (.tup [.agg ((lookI d.items n).getD Itm.zero).cells, .bool (lookI d.items n).isSome]) := by
  refine FnP.intro Tryz.func43 rfl rfl (by simp [Tryz.ntmps43]) ?_
  simp only [argEnv, Tryz.ntmps43, Tryz.results43]
  simp only [Dc.bulk] at h
  have hlen := ibulk_len d.items
  have hlt := iidxI_lt (l := d.items) (n := n)
  refine AW.rS ?_
  refine AW.rSC ?_
  refine awOps.cons (awGuard.c1 (c_IndexFunc_Get _ d.items n) ?_)
  refine awOps.rn ?_
  refine AW.seq ?_
  refine AW.rS ?_
  refine AW.c2 ?_ ?_
  · intro h7
    refine AW.rS ?_
    refine AW.rt ?_
    rw [look_miss h7]; rfl
  · intro h7
    refine AW.skip ?_
    have hgb := ibulk_get (l := d.items) (i := (iidxI d.items n).toNat) (by omega)
    refine AW.rSC ?_
    refine awOps.cons (awGuard.c1 (c_docs_copied _ (d.items.getD (iidxI d.items n).toNat Itm.zero)) ?_)
    refine awOps.rn ?_
    refine AW.rt ?_
    rw [look_hit (by omega)]; rfl
end Go.Proofs

namespace Go.Proofs
open Go Aw
set_option linter.unusedSimpArgs false
set_option linter.unusedVariables false
set_option maxRecDepth 100000
set_option maxHeartbeats 1000000

theorem h_docs_fresh (gl : List (Nat × AV)) (d : Dc) (h : d.bulk ≤ 16777216 := by first | omega | exact u8_le _ | assumption | (simp; done) | (simp; omega)) : FnH Tryz.prog (gl) 89 [.agg d.cells] ([]) 0 (fun r h n => r = .ret (.agg [.row 1 0 d.items.length, .int .i64 d.trailer.kind, .int .i64 d.trailer.num, .int .i64 d.trailer.gen, .str d.trailer.str, .sl (strsAV d.trailer.keys), .sl (objsAV d.trailer.kids)]) ∧ h = [(0, .cells [.row 1 0 d.items.length, .int .i64 d.trailer.kind, .int .i64 d.trailer.num, .int .i64 d.trailer.gen, .str d.trailer.str, .sl (strsAV d.trailer.keys), .sl (objsAV d.trailer.kids)]), (1, .row 8 (itemsAV d.items) true)] ∧ n = 2) := by
  refine FnH.intro Tryz.func89 rfl rfl (by simp [Tryz.ntmps89]) ?_
  simp only [argEnv, Tryz.ntmps89, Tryz.results89]
  simp only [Dc.bulk] at h
  have hlen := ibulk_len d.items
  refine AW.rS ?_
  refine AW.rSC ?_
  refine awOps.cons (awGuard.c1 (c_value_Clone _ d.trailer) ?_)
  refine awOps.rn ?_
  refine AW.seq ?_
  refine AW.rS ?_
  refine AW.block ?_
  refine AW.pre (St.le.nilcell 2 0 8 (by (simp only [go_sem, seval]; try (simp (disch := omega) only [zqa, zqb, zqc, zqd, zqe, zqf, zqg, zqh, zqi, zqj, zqk, zql, zqm, zqn, zqo, zqp, zqq, zqr, zqs]; try (simp only [go_sem, seval]; try (simp (disch := omega) only [zqa, zqb, zqc, zqd, zqe, zqf, zqg, zqh, zqi, zqj, zqk, zql, zqm, zqn, zqo, zqp, zqq, zqr, zqs]; try simp only [go_sem, seval])))); exact rfl) (by exact rfl)) ?_
  refine wk ?_
  refine AW.lk (S := { i : Nat // i ≤ d.items.length }) [2, 3, 11, 12] (fun s_ => [(13, .int .i64 s_.1)]) (fun s_ => [(0, .cells d.cells), (1, .cells [.raw (.slice none 0 0), .int .i64 0, .int .i64 0, .int .i64 0, .str [], .raw (.slice none 0 0), .raw (.slice none 0 0)]), (2, .cells [.row 3 0 s_.1, .int .i64 d.trailer.kind, .int .i64 d.trailer.num, .int .i64 d.trailer.gen, .str d.trailer.str, .sl (strsAV d.trailer.keys), .sl (objsAV d.trailer.kids)]), (3, .row 8 (itemsAV (d.items.take s_.1)) true)]) 4 (fun s_ => d.items.length - s_.1) ⟨0, Nat.zero_le _⟩ ?_ ?_
  · refine St.le.vw [0, 1, 2, 3]
  rintro ⟨i, hi⟩
  try dsimp only at hi
  refine AW.rS ?_
  refine AW.seq ?_
  refine AW.c2 ?_ ?_
  · intro h11
    have hgb := ibulk_get (l := d.items) (i := i) (by omega)
    refine AW.skip ?_
    refine AW.seq ?_
    refine AW.block ?_
    refine AW.rS ?_
    refine AW.fL [0, 1, 2, 3, 4] [(5, 2), (6, 2), (7, 2)] ?_
    refine awFun.rn ?_
    refine awFun.c1 [19] (c_docs_copied _ (d.items.getD i Itm.zero)) ?_
    refine awFun.rn ?_
    refine awFun.bs [20] ?_
    refine awFun.rn ?_
    rw [Aw.awFun_nil]
    refine awPlan.rn ?_
    refine AW.rL ?_
    refine ⟨⟨i + 1, by omega⟩, ?_, ?_⟩
    · refine St.le.vx [0, 1, 2, 5] ?_
      have hsn := itemsAV_snoc' d.items i h11; rw [List.take_of_length_le (by rw [itemsAV_length, List.length_take]; omega), hsn]
    · simp only []; omega
  · intro h11
    refine AW.exit ?_
    obtain rfl : i = d.items.length := by omega
    rw [List.take_length]
    refine AW.rS ?_
    refine AW.vw [1, 3] [(2, .ptr 0 0)] [(0, .cells [.row 1 0 d.items.length, .int .i64 d.trailer.kind, .int .i64 d.trailer.num, .int .i64 d.trailer.gen, .str d.trailer.str, .sl (strsAV d.trailer.keys), .sl (objsAV d.trailer.kids)]), (1, .row 8 (itemsAV d.items) true)] ?_
    refine AW.rt ?_
    all_goals first | contradiction | rfl | (simp; done) | (simp; omega)
theorem h_docs_take (gl : List (Nat × AV)) (l : List Itm) (q : Int) (hl : l.length ≤ 16777216 := by first | omega | exact u8_le _ | assumption | (simp; done) | (simp; omega)) (hs : incrN l := by first | omega | exact u8_le _ | assumption | (simp; done) | (simp; omega)) : FnH Tryz.prog (gl) 90 [.row 0 0 l.length, .int .i64 q] ([(0, .row 8 (itemsAV l) true)]) 1 (fun r h n => r = .ret (.tup [.row 0 0 (takeI l q).length, .bool (ithere l q)]) ∧ h = [(0, .row 8 (itemsAV (takeI l q)) true)] ∧ n = 1) := by
  refine FnH.intro Tryz.func90 rfl rfl (by simp [Tryz.ntmps90]) ?_
  simp only [argEnv, Tryz.ntmps90, Tryz.results90]
  refine AW.rS ?_
  refine AW.rSC ?_
  refine awOps.cons (awGuard.cH [0] (h_BinSearch_Item _ l q) ?_)
  refine awOps.rn ?_
  refine AW.seq ?_
  refine AW.rS ?_
  refine AW.c2 ?_ ?_
  · intro h7
    refine AW.rS ?_
    refine AW.rt ?_
    simp [takeI, h7]
  · intro h7
    refine AW.skip ?_
    have hlt := ithere_lt h7
    refine AW.rSC ?_
    refine awOps.cons (awGuard.cH [0] (h_Del_itm _ l (iplace l q) (ithere_lt h7)) ?_)
    refine awOps.rn ?_
    refine AW.rt ?_
    have e : iplace l q + (l.length - (iplace l q + 1)) = (delAt l (iplace l q)).length := by rw [delAt_length hlt]; omega
    rw [e]
    simp [takeI, h7]
theorem h_docs_lay (gl : List (Nat × AV)) (l : List Itm) (i : Itm) (hl : l.length ≤ 16777216 := by first | omega | exact u8_le _ | assumption | (simp; done) | (simp; omega)) (hb : i.obj.bulk ≤ 16777216 := by first | omega | exact u8_le _ | assumption | (simp; done) | (simp; omega)) (hs : incrN l := by first | omega | exact u8_le _ | assumption | (simp; done) | (simp; omega)) : FnH Tryz.prog (gl) 92 [.row 0 0 l.length, .agg i.cells] ([(0, .row 8 (itemsAV l) true)]) 1 (fun r h n => r = .ret (.row 1 0 (layI l i).length) ∧ h = [(1, .row 8 (itemsAV (layI l i)) true)] ∧ n = 2) := by
  refine FnH.intro Tryz.func92 rfl rfl (by simp [Tryz.ntmps92]) ?_
  simp only [argEnv, Tryz.ntmps92, Tryz.results92]
  refine AW.rS ?_
  refine AW.rSC ?_
  refine awOps.cons (awGuard.cH [0] (h_BinSearch_Item _ l i.num) ?_)
  refine awOps.rn ?_
  refine AW.seq ?_
  refine AW.rS ?_
  refine AW.c2 ?_ ?_
  · intro h7
    have hlt := ithere_lt h7
    have hset : layI l i = l.set (iplace l i.num) i := by rw [layI, if_pos h7]
    refine AW.rSC ?_
    refine awOps.cons (awGuard.c1 (c_docs_copied _ i) ?_)
    refine awOps.rn ?_
    refine AW.rS ?_
    rw [hset]
    refine AW.rnm 4 ?_
    refine wk ?_
    refine AW.vw [0, 2] [(4, .row 1 0 l.length)] [(1, .row 8 ((itemsAV l).set (iplace l i.num) i.cells) true)] ?_
    refine AW.rt ?_
    rw [itemsAV_set', List.length_set]
    exact ⟨rfl, rfl⟩
  · intro h7
    refine AW.skip ?_
    refine AW.rSC ?_
    refine awOps.cons (awGuard.c1 (c_docs_copied _ i) ?_)
    refine awOps.rn ?_
    refine awOps.cons (awGuard.cH [0, 2] (h_Ins_itm _ l i (iplace l i.num) (iplace_le _ _)) ?_)
    refine awOps.rn ?_
    have hins : layI l i = insAt l (iplace l i.num) i := by rw [layI, if_neg (by simp [h7])]
    rw [hins]
    refine AW.vw [0, 3] [(4, .row 1 0 (l.length + 1))] [(1, .row 8 (itemsAV (insAt l (iplace l i.num) i)) true)] ?_
    refine AW.rt ?_
    all_goals simp [insAt_length]
theorem c_docs_told (gl : List (Nat × AV)) (d : Dc) (h : d.bulk ≤ 16777216 := by first | omega | exact u8_le _ | assumption | (simp; done) | (simp; omega)) : FnP Tryz.prog (gl) 93 [.agg d.cells] fun r => r = .ret (.tup [.agg (if docE d = 0 then d else Dc.zero).cells, .int .i64 (docE d)]) := by
  refine FnP.intro Tryz.func93 rfl rfl (by simp [Tryz.ntmps93]) ?_
  simp only [argEnv, Tryz.ntmps93, Tryz.results93]
  refine AW.rS ?_
  refine AW.seq ?_
  refine AW.rSC ?_
  refine awOps.cons (awGuard.c1 (c_docs_Check _ d) ?_)
  refine awOps.rn ?_
  refine AW.rS ?_
  refine AW.c2 ?_ ?_
  · intro h7
    refine AW.rS ?_
    refine AW.rt ?_
    rw [if_neg h7]; rfl
  · intro h7
    refine AW.skip ?_
    refine AW.rS ?_
    refine AW.rt ?_
    rw [if_pos h7, h7]
end Go.Proofs
