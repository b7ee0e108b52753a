/- A part of the proof of a law of the seat: no condition of its own. -/
import Derived.Test.YtncdpaekhhcjoaaPart8
namespace Go.Proofs
open Go Aw
set_option linter.unusedSimpArgs false
set_option linter.unusedVariables false
set_option maxRecDepth 100000
set_option maxHeartbeats 1000000

theorem c_docs_Diff (gl : List (Nat × AV)) (a b : Dc) (ha : a.bulk ≤ 16777000 := by first | omega | exact u8_le _ | assumption | (simp; done) | (simp; omega)) (hb : b.bulk ≤ 16777000 := by first | omega | exact u8_le _ | assumption | (simp; done) | (simp; omega)) : FnP Try.prog (gl) 15 [.agg a.cells, .agg b.cells] fun r => r = .ret (.tup [.sl (itemsAV (diffL a b)), .sl (intsAV (diffG a b))]) := by
  refine FnP.intro Try.func15 rfl rfl (by simp [Try.ntmps15]) ?_
  simp only [argEnv, Try.ntmps15, Try.results15]
  have hla := ibulk_len a.items
  have hlb := ibulk_len b.items
  have hda : a.bulk = ibulk a.items + a.trailer.bulk := rfl
  have hdb : b.bulk = ibulk b.items + b.trailer.bulk := rfl
  refine AW.rS ?_
  refine AW.seq ?_
  refine AW.rSC ?_
  refine awOps.cons (awGuard.c1 (c_docs_Check _ a (by omega)) ?_)
  refine awOps.rn ?_
  refine awOps.cons (awGuard.cG (fun hg => c_docs_Check _ b (by omega)) ?_)
  refine awOps.rn ?_
  refine AW.c2 ?_ ?_
  · intro h8
    refine AW.rS ?_
    refine AW.rt ?_
    have hd1 : diffL a b = [] := by unfold diffL; rw [if_pos h8]
    have hd2 : diffG a b = [] := by unfold diffG; rw [if_pos h8]
    rw [hd1, hd2]; rfl
  · intro h8
    have hea : docE a = 0 := h8.1
    have heb : docE b = 0 := h8.2
    have hsa := doc_incr hea
    have hsb := doc_incr heb
    rw [diffL_eq hea heb, diffG_eq hea heb]
    refine AW.skip ?_
    refine AW.rS ?_
    refine AW.rS ?_
    refine AW.seq ?_
    refine AW.rS ?_
    refine AW.block ?_
    refine AW.pre (St.le.nilrow 6 8 (by (simp only [go_sem, seval]; try (simp (disch := omega) only [wrap_i64, wrap_u8, wrap_u64, tdiv_nn, tmod_nn, Int.toNat_natCast_add_one, toNat_sub1, Int.toNat_sub, Int.toNat_natCast, intsAV_getD, strsAV_getD, objsAV_getD, itemsAV_getD, intsAV_out, strsAV_out, objsAV_out, itemsAV_out, fillO_length, fillO_set]; try (simp only [go_sem, seval]; try (simp (disch := omega) only [wrap_i64, wrap_u8, wrap_u64, tdiv_nn, tmod_nn, Int.toNat_natCast_add_one, toNat_sub1, Int.toNat_sub, Int.toNat_natCast, intsAV_getD, strsAV_getD, objsAV_getD, itemsAV_getD, intsAV_out, strsAV_out, objsAV_out, itemsAV_out, fillO_length, fillO_set]; try simp only [go_sem, seval])))))) ?_
    refine wk ?_
    refine AW.pre (St.le.nilrow 7 1 (by (simp only [go_sem, seval]; try (simp (disch := omega) only [wrap_i64, wrap_u8, wrap_u64, tdiv_nn, tmod_nn, Int.toNat_natCast_add_one, toNat_sub1, Int.toNat_sub, Int.toNat_natCast, intsAV_getD, strsAV_getD, objsAV_getD, itemsAV_getD, intsAV_out, strsAV_out, objsAV_out, itemsAV_out, fillO_length, fillO_set]; try (simp only [go_sem, seval]; try (simp (disch := omega) only [wrap_i64, wrap_u8, wrap_u64, tdiv_nn, tmod_nn, Int.toNat_natCast_add_one, toNat_sub1, Int.toNat_sub, Int.toNat_natCast, intsAV_getD, strsAV_getD, objsAV_getD, itemsAV_getD, intsAV_out, strsAV_out, objsAV_out, itemsAV_out, fillO_length, fillO_set]; try simp only [go_sem, seval])))))) ?_
    refine wk ?_
    refine AW.lk (S := { i : Nat // i ≤ b.items.length }) [2, 3, 7, 25, 26] (fun s_ => [(6, .row 2 0 ((b.items.take s_.1).filter (diffB a.items)).length), (27, .int .i64 s_.1)]) (fun s_ => [(0, .cells a.cells), (1, .cells b.cells), (2, .row 8 (itemsAV ((b.items.take s_.1).filter (diffB a.items))) true), (3, .row 1 [] true)]) 4 (fun s_ => b.items.length - s_.1) ⟨0, Nat.zero_le _⟩ ?_ ?_
    · refine St.le.vw [0, 1, 2, 3]
    rintro ⟨i, hi⟩
    try dsimp only at hi
    refine AW.rS ?_
    refine AW.seq ?_
    refine AW.c2 ?_ ?_
    · intro h21
      have hgb := ibulk_get (l := b.items) (i := i) (by omega)
      have hfl := filter_take_len b.items i (diffB a.items)
      refine AW.skip ?_
      refine AW.seq ?_
      refine AW.block ?_
      refine AW.rS ?_
      refine AW.rSC ?_
      refine awOps.cons (awGuard.c1 (c_BinSearch_Item _ a.items (b.items.getD i Itm.zero).num (by omega) hsa) ?_)
      refine awOps.rn ?_
      by_cases hs29 : ithere a.items (b.items.getD i Itm.zero).num = true
      · skip
        have hlt := ithere_lt hs29
        have hga := ibulk_get (l := a.items) (i := iplace a.items (b.items.getD i Itm.zero).num) hlt
        rw [hs29]
        refine AW.fS [0, 1, 2, 3, 4, 5, 6, 7, 8] [(9, 2), (10, 2), (11, 2)] ?_
        refine awFun.rn ?_
        rw [Aw.awFun_nil]
        refine awPlan.rn ?_
        refine awPlan.only rfl ?_
        refine awGuard.cG (fun hg => c_docs_same _ (a.items.getD (iplace a.items (b.items.getD i Itm.zero).num) Itm.zero) (b.items.getD i Itm.zero) (by omega)) ?_
        refine awPlan.rn ?_
        refine AW.c2 ?_ ?_
        · intro h35
          have hdf : diffB a.items (b.items.getD i Itm.zero) = true := by simp only [diffB]; simp_all
          have hft := filter_take_yes (l := b.items) (i := i) (p := diffB a.items) (d := Itm.zero) (by omega) hdf
          have hf2 := congrArg List.length hft
          rw [List.length_append, List.length_singleton] at hf2
          refine AW.rLC ?_
          refine awOps.cons (awGuard.c1 (c_docs_copied _ (b.items.getD i Itm.zero)) ?_)
          refine awOps.rn ?_
          refine AW.rL ?_
          refine ⟨⟨i + 1, by omega⟩, ?_, ?_⟩
          · refine St.le.vx [0, 1, 6, 3] ?_
            rw [hft]; simp only [itemsAV, List.map_append, List.map_cons, List.map_nil, Itm.cells]
          · simp only []; omega
        · intro h35
          have hdf : diffB a.items (b.items.getD i Itm.zero) = false := by simp only [diffB]; simp_all
          have hft := filter_take_no (l := b.items) (i := i) (p := diffB a.items) (d := Itm.zero) (by omega) hdf
          have hf2 := congrArg List.length hft
          refine AW.skip ?_
          refine AW.rL ?_
          refine ⟨⟨i + 1, by omega⟩, ?_, ?_⟩
          · refine St.le.vx [0, 1, 2, 3] ?_
            rw [hft]
          · simp only []; omega
      · skip
        by_cases hs29 : iplace a.items (b.items.getD i Itm.zero).num < a.items.length
        · skip
          have hth : ithere a.items (b.items.getD i Itm.zero).num = false := by simpa using ‹¬ithere a.items (b.items.getD i Itm.zero).num = true›
          rw [hth]
          refine AW.fS [0, 1, 2, 3, 4, 5, 6, 7, 8] [(9, 2), (10, 2), (11, 2)] ?_
          refine awFun.rn ?_
          rw [Aw.awFun_nil]
          refine awPlan.rn ?_
          refine awPlan.only rfl ?_
          refine awGuard.gF (.bool false) ?_ ?_
          · rfl
          refine awPlan.rn ?_
          refine AW.c2 ?_ ?_
          · intro h35
            have hdf : diffB a.items (b.items.getD i Itm.zero) = true := by simp only [diffB]; simp_all
            have hft := filter_take_yes (l := b.items) (i := i) (p := diffB a.items) (d := Itm.zero) (by omega) hdf
            have hf2 := congrArg List.length hft
            rw [List.length_append, List.length_singleton] at hf2
            refine AW.rLC ?_
            refine awOps.cons (awGuard.c1 (c_docs_copied _ (b.items.getD i Itm.zero)) ?_)
            refine awOps.rn ?_
            refine AW.rL ?_
            refine ⟨⟨i + 1, by omega⟩, ?_, ?_⟩
            · refine St.le.vx [0, 1, 6, 3] ?_
              rw [hft]; simp only [itemsAV, List.map_append, List.map_cons, List.map_nil, Itm.cells]
            · simp only []; omega
          · intro h35
            have hdf : diffB a.items (b.items.getD i Itm.zero) = false := by simp only [diffB]; simp_all
            have hft := filter_take_no (l := b.items) (i := i) (p := diffB a.items) (d := Itm.zero) (by omega) hdf
            have hf2 := congrArg List.length hft
            refine AW.skip ?_
            refine AW.rL ?_
            refine ⟨⟨i + 1, by omega⟩, ?_, ?_⟩
            · refine St.le.vx [0, 1, 2, 3] ?_
              rw [hft]
            · simp only []; omega
        · skip
          have hth : ithere a.items (b.items.getD i Itm.zero).num = false := by simpa using ‹¬ithere a.items (b.items.getD i Itm.zero).num = true›
          rw [hth]
          refine AW.fS [0, 1, 2, 3, 4, 5, 6, 7, 8] [(9, 2), (10, 2), (11, 2)] ?_
          refine awFun.rn ?_
          rw [Aw.awFun_nil]
          refine awPlan.rn ?_
          refine awPlan.only rfl ?_
          refine awGuard.gF (.bool false) ?_ ?_
          · rfl
          refine awPlan.rn ?_
          refine AW.c2 ?_ ?_
          · intro h35
            have hdf : diffB a.items (b.items.getD i Itm.zero) = true := by simp only [diffB]; simp_all
            have hft := filter_take_yes (l := b.items) (i := i) (p := diffB a.items) (d := Itm.zero) (by omega) hdf
            have hf2 := congrArg List.length hft
            rw [List.length_append, List.length_singleton] at hf2
            refine AW.rLC ?_
            refine awOps.cons (awGuard.c1 (c_docs_copied _ (b.items.getD i Itm.zero)) ?_)
            refine awOps.rn ?_
            refine AW.rL ?_
            refine ⟨⟨i + 1, by omega⟩, ?_, ?_⟩
            · refine St.le.vx [0, 1, 6, 3] ?_
              rw [hft]; simp only [itemsAV, List.map_append, List.map_cons, List.map_nil, Itm.cells]
            · simp only []; omega
          · intro h35
            have hdf : diffB a.items (b.items.getD i Itm.zero) = false := by simp only [diffB]; simp_all
            have hft := filter_take_no (l := b.items) (i := i) (p := diffB a.items) (d := Itm.zero) (by omega) hdf
            have hf2 := congrArg List.length hft
            refine AW.skip ?_
            refine AW.rL ?_
            refine ⟨⟨i + 1, by omega⟩, ?_, ?_⟩
            · refine St.le.vx [0, 1, 2, 3] ?_
              rw [hft]
            · simp only []; omega
    · intro h21
      refine AW.exit ?_
      obtain rfl : i = b.items.length := by omega
      rw [List.take_length]
      have hfb := List.length_filter_le (diffB a.items) b.items
      refine AW.seq ?_
      refine AW.rS ?_
      refine AW.block ?_
      refine AW.lk (S := { i : Nat // i ≤ a.items.length }) [3, 6, 58, 59] (fun s_ => [(7, .row 3 0 ((a.items.take s_.1).filter (goneB b.items)).length), (60, .int .i64 s_.1)]) (fun s_ => [(0, .cells a.cells), (1, .cells b.cells), (2, .row 8 (itemsAV (b.items.filter (diffB a.items))) true), (3, .row 1 (intsAV (((a.items.take s_.1).filter (goneB b.items)).map Itm.num)) true)]) 4 (fun s_ => a.items.length - s_.1) ⟨0, Nat.zero_le _⟩ ?_ ?_
      · refine St.le.vw [0, 1, 2, 3]
      rintro ⟨j, hj⟩
      try dsimp only at hj
      refine AW.rS ?_
      refine AW.seq ?_
      refine AW.c2 ?_ ?_
      · intro h51
        have hfg := filter_take_len a.items j (goneB b.items)
        refine AW.skip ?_
        refine AW.seq ?_
        refine AW.block ?_
        refine AW.rS ?_
        refine AW.rSC ?_
        refine awOps.cons (awGuard.c1 (c_BinSearch_Item _ b.items (a.items.getD j Itm.zero).num (by omega) hsb) ?_)
        refine awOps.rn ?_
        refine AW.rS ?_
        refine AW.c2 ?_ ?_
        · intro h60
          have hdf : goneB b.items (a.items.getD j Itm.zero) = true := by simp only [goneB]; simp_all
          have hft := filter_take_yes (l := a.items) (i := j) (p := goneB b.items) (d := Itm.zero) (by omega) hdf
          have hf2 := congrArg List.length hft
          rw [List.length_append, List.length_singleton] at hf2
          refine AW.rL ?_
          refine AW.rL ?_
          refine ⟨⟨j + 1, by omega⟩, ?_, ?_⟩
          · refine St.le.vx [0, 1, 2, 6] ?_
            rw [hft]; simp only [intsAV, List.map_append, List.map_cons, List.map_nil]; rw [List.take_of_length_le (by simp)]
          · simp only []; omega
        · intro h60
          have hdf : goneB b.items (a.items.getD j Itm.zero) = false := by simp only [goneB]; simp_all
          have hft := filter_take_no (l := a.items) (i := j) (p := goneB b.items) (d := Itm.zero) (by omega) hdf
          have hf2 := congrArg List.length hft
          refine AW.skip ?_
          refine AW.rL ?_
          refine ⟨⟨j + 1, by omega⟩, ?_, ?_⟩
          · refine St.le.vx [0, 1, 2, 3] ?_
            rw [hft]
          · simp only []; omega
      · intro h51
        refine AW.exit ?_
        obtain rfl : j = a.items.length := by omega
        rw [List.take_length]
        refine AW.rS ?_
        refine AW.rt ?_
        refine ⟨by rw [List.length_map]; exact Nat.le_refl _, ?_⟩
        rw [List.take_of_length_le (by simp [intsAV])]
end Go.Proofs

namespace Aw
open Go
theorem ibulk_take {l : List Itm} {i : Nat} (h : i < l.length) : ibulk (l.take (i + 1)) = ibulk (l.take i) + ((l.getD i Itm.zero).obj.bulk + 1) := sum_take (f := fun i : Itm => i.obj.bulk + 1) (d := Itm.zero) h
theorem ibulk_take_le (l : List Itm) (i : Nat) : ibulk (l.take i) ≤ ibulk l := sum_take_le l i _
theorem takeItm_succ {a b : List Itm} {i : Nat} (h : i < a.length) (hl : a.length = b.length) (he : a.take i = b.take i) (hg : a.getD i Itm.zero = b.getD i Itm.zero) : a.take (i + 1) = b.take (i + 1) := by
  rw [List.take_succ_eq_append_getElem h, List.take_succ_eq_append_getElem (hl ▸ h), he]
  simp only [List.getD, List.getElem?_eq_getElem h, List.getElem?_eq_getElem (hl ▸ h), Option.getD_some] at hg
  rw [hg]
theorem trailerK_yes {o : Pob} {i : Nat} (h : i < trailK.length) (hg : getB o (trailK.getD i []) = true) : trailerK o (i + 1) = trailerK o i ++ [trailK.getD i []] := filter_take_yes h hg
theorem trailerK_no {o : Pob} {i : Nat} (h : i < trailK.length) (hg : getB o (trailK.getD i []) = false) : trailerK o (i + 1) = trailerK o i := filter_take_no h hg
theorem trailerK_len (o : Pob) (i : Nat) : (trailerK o i).length ≤ 3 := filter_take_len trailK i (getB o)
theorem Dc_eq (a b : Dc) : a = b ↔ a.items = b.items ∧ a.trailer = b.trailer := by cases a; cases b; simp
instance dcDec : DecidableEq Dc := fun a b => decidable_of_iff (a.items = b.items ∧ a.trailer = b.trailer) (Dc_eq a b).symm
end Aw

namespace Go.Proofs
open Go Aw
set_option linter.unusedSimpArgs false
set_option linter.unusedVariables false
set_option maxRecDepth 100000
set_option maxHeartbeats 1000000

theorem c_docs_Apply (gl : List (Nat × AV)) (d : Dc) (l : List Itm) (ns : List Int) (h : d.bulk + ibulk l ≤ 16777000) (hns : ns.length ≤ 16777000) : FnP Try.prog (gl) 16 [.agg d.cells, .sl (itemsAV l), .sl (intsAV ns)] fun r => r = .ret (.tup [.agg (applyD d l ns).cells, .int .i64 (applyE d l ns)]) := by
  refine FnP.intro Try.func16 rfl rfl (by simp [Try.ntmps16]) ?_
  simp only [argEnv, Try.ntmps16, Try.results16]
  have hlen := ibulk_len d.items
  have hll := ibulk_len l
  have hdb : d.bulk = ibulk d.items + d.trailer.bulk := rfl
  refine AW.rS ?_
  refine AW.seq ?_
  refine AW.rSC ?_
  refine awOps.cons (awGuard.c1 (c_docs_Check _ d (by omega)) ?_)
  refine awOps.rn ?_
  refine AW.rS ?_
  refine AW.c2 ?_ ?_
  · intro h7
    refine AW.rS ?_
    refine AW.rt ?_
    rw [(apply_doc h7).1, (apply_doc h7).2]; rfl
  · intro h7
    refine AW.skip ?_
    have hs0 := doc_incr h7
    refine AW.rSC ?_
    refine awOps.cons (awGuard.cH [] (h_docs_fresh _ d (by omega)) ?_)
    refine awOps.rn ?_
    refine AW.seq ?_
    refine AW.rS ?_
    refine AW.block ?_
    refine AW.lk (S := { p : Nat × List Itm // p.1 ≤ ns.length ∧ incrN p.2 ∧ ibulk p.2 ≤ ibulk d.items ∧ applyT d.items ns = applyT p.2 (ns.drop p.1) }) [1, 3, 6, 24, 25] (fun s_ => [(26, .int .i64 s_.1.1)]) (fun s_ => [(0, .cells [.row 2 0 s_.1.2.length, .int .i64 d.trailer.kind, .int .i64 d.trailer.num, .int .i64 d.trailer.gen, .str d.trailer.str, .sl (strsAV d.trailer.keys), .sl (objsAV d.trailer.kids)]), (1, .cells [.raw (.slice none 0 0), .int .i64 0, .int .i64 0, .int .i64 0, .str [], .raw (.slice none 0 0), .raw (.slice none 0 0)]), (2, .row 8 (itemsAV s_.1.2) true)]) 3 (fun s_ => ns.length - s_.1.1) ⟨(0, d.items), Nat.zero_le _, hs0, Nat.le_refl _, rfl⟩ ?_ ?_
    · refine St.le.vw [0, 1, 3]
    rintro ⟨⟨i, x⟩, hi, hx, hxb, hxs⟩
    try dsimp only at hi
    try dsimp only at hx
    try dsimp only at hxb
    try dsimp only at hxs
    refine AW.rS ?_
    refine AW.seq ?_
    refine AW.c2 ?_ ?_
    · intro h21
      have hlx := ibulk_len x
      have htb := takeI_bulk x (ns.getD i 0)
      refine AW.skip ?_
      refine AW.seq ?_
      refine AW.block ?_
      refine AW.rS ?_
      refine AW.rSC ?_
      refine awOps.cons (awGuard.cH [2] (h_docs_take _ x (ns.getD i 0) (by omega) hx) ?_)
      refine awOps.rn ?_
      refine AW.seq ?_
      refine AW.rS ?_
      refine AW.c2 ?_ ?_
      · intro h31
        refine AW.rS ?_
        refine AW.rt ?_
        have hn : applyT d.items ns = none := by rw [hxs, applyT_drop h21, if_neg (by rw [h31]; simp)]
        rw [(apply_none h7 hn).1, (apply_none h7 hn).2]; rfl
      · intro h31
        refine AW.skip ?_
        refine AW.rL ?_
        refine AW.rL ?_
        refine ⟨⟨(i + 1, takeI x (ns.getD i 0)), by dsimp only; omega, takeI_incr hx, by dsimp only; omega, by rw [hxs, applyT_drop h21, if_pos h31]⟩, ?_, ?_⟩
        · refine St.le.vw [0, 1, 2]
        · simp only []; omega
    · intro h21
      refine AW.exit ?_
      have hT : applyT d.items ns = some x := by rw [hxs, List.drop_of_length_le (by omega), applyT]
      refine AW.seq ?_
      refine AW.rS ?_
      refine AW.block ?_
      refine AW.lk (S := { p : Nat × List Itm // p.1 ≤ l.length ∧ incrN p.2 ∧ ibulk p.2 ≤ ibulk d.items + ibulk (l.take p.1) ∧ p.2 = (l.take p.1).foldl layI x ∧ aloneL l = aloneL (l.drop p.1) }) [3, 6, 43, 44] (fun s_ => [(45, .int .i64 s_.1.1)]) (fun s_ => [(0, .cells [.row 2 0 s_.1.2.length, .int .i64 d.trailer.kind, .int .i64 d.trailer.num, .int .i64 d.trailer.gen, .str d.trailer.str, .sl (strsAV d.trailer.keys), .sl (objsAV d.trailer.kids)]), (1, .cells [.raw (.slice none 0 0), .int .i64 0, .int .i64 0, .int .i64 0, .str [], .raw (.slice none 0 0), .raw (.slice none 0 0)]), (2, .row 8 (itemsAV s_.1.2) true)]) 3 (fun s_ => l.length - s_.1.1) ⟨(0, x), Nat.zero_le _, hx, by dsimp only; omega, rfl, rfl⟩ ?_ ?_
      · refine St.le.vw [0, 1, 2]
      rintro ⟨⟨k, y⟩, hk, hy, hyb, hyf, hya⟩
      try dsimp only at hk
      try dsimp only at hy
      try dsimp only at hyb
      try dsimp only at hyf
      try dsimp only at hya
      refine AW.rS ?_
      refine AW.seq ?_
      refine AW.c2 ?_ ?_
      · intro h46
        have hgb := ibulk_get (l := l) (i := k) (by omega)
        have hly := ibulk_len y
        have hit := ibulk_take (l := l) (i := k) (by omega)
        have hil := ibulk_take_le l (k + 1)
        have hlb := layI_bulk y (l.getD k Itm.zero)
        refine AW.skip ?_
        refine AW.seq ?_
        refine AW.block ?_
        refine AW.rS ?_
        refine AW.seq ?_
        refine AW.rSC ?_
        refine awOps.cons (awGuard.c1 (c_docs_alone _ (l.getD k Itm.zero) (by omega)) ?_)
        refine awOps.rn ?_
        refine AW.rS ?_
        refine AW.c2 ?_ ?_
        · intro h56
          refine AW.rS ?_
          refine AW.rt ?_
          have hn : aloneL l = aloneE (l.getD k Itm.zero) := by rw [hya, aloneL_drop h46, if_pos h56]
          have ha := apply_alone h7 hT (by rw [hn]; exact h56)
          rw [ha.1, ha.2, hn]; rfl
        · intro h56
          refine AW.skip ?_
          refine AW.rLC ?_
          refine awOps.cons (awGuard.cH [2] (h_docs_lay _ y (l.getD k Itm.zero) (by omega) (by omega) hy) ?_)
          refine awOps.rn ?_
          refine AW.rL ?_
          refine ⟨⟨(k + 1, layI y (l.getD k Itm.zero)), by dsimp only; omega, layI_incr hy, by dsimp only; omega, by rw [foldl_take (d := Itm.zero) h46, ← hyf], by rw [hya, aloneL_drop h46, if_neg (by simpa using h56)]⟩, ?_, ?_⟩
          · refine St.le.vw [0, 1, 4]
          · simp only []; omega
      · intro h46
        refine AW.exit ?_
        have hk' : k = l.length := by omega
        subst hk'
        have hil := ibulk_take_le l l.length
        have hly := ibulk_len y
        rw [List.take_length] at hyf
        rw [List.drop_length, aloneL] at hya
        have ha := apply_ok h7 hT hya
        rw [← hyf] at ha
        refine AW.rSC ?_
        refine awOps.cons (awGuard.c1 (c_docs_told _ ⟨y, d.trailer⟩ (by simp only [Dc.bulk]; omega)) ?_)
        refine awOps.rn ?_
        refine AW.rt ?_
        rw [ha.1, ha.2]
theorem c_docs_Trailer (gl : List (Nat × AV)) (o : Pob) (h : o.bulk ≤ 16777000 := by first | omega | exact u8_le _ | assumption | (simp; done) | (simp; omega)) : FnP Try.prog (gl) 50 [.agg o.cells] fun r => r = .ret (.agg (trailerO o).cells) := by
  refine FnP.intro Try.func50 rfl rfl (by simp [Try.ntmps50]) ?_
  simp only [argEnv, Try.ntmps50, Try.results50]
  refine AW.rS ?_
  refine AW.rS ?_
  refine AW.seq ?_
  refine AW.rSC ?_
  refine awOps.cons (awGuard.cG (fun hg => c_value_Check _ o (by omega)) ?_)
  refine awOps.rn ?_
  refine AW.c2 ?_ ?_
  · intro h7
    refine AW.rS ?_
    refine AW.rt ?_
    have hb : trailerB o = false := by simp only [trailerB, keyedB, Bool.and_eq_false_iff, Bool.or_eq_false_iff, decide_eq_false_iff_not]; omega
    rw [trailerO, if_neg (by rw [hb]; simp)]; rfl
  · intro h7
    have hb : trailerB o = true := by simp only [trailerB, keyedB, Bool.and_eq_true, Bool.or_eq_true, decide_eq_true_eq]; omega
    refine AW.skip ?_
    refine AW.seq ?_
    refine AW.rSC ?_
    refine awOps.cons (awGuard.c1 (c_docs_known ..) ?_)
    refine awOps.rn ?_
    refine AW.block ?_
    refine AW.pre (St.le.nilcell 2 4 1 (by (simp only [go_sem, seval]; try (simp (disch := omega) only [wrap_i64, wrap_u8, wrap_u64, tdiv_nn, tmod_nn, Int.toNat_natCast_add_one, toNat_sub1, Int.toNat_sub, Int.toNat_natCast, intsAV_getD, strsAV_getD, objsAV_getD, itemsAV_getD, intsAV_out, strsAV_out, objsAV_out, itemsAV_out, fillO_length, fillO_set]; try (simp only [go_sem, seval]; try (simp (disch := omega) only [wrap_i64, wrap_u8, wrap_u64, tdiv_nn, tmod_nn, Int.toNat_natCast_add_one, toNat_sub1, Int.toNat_sub, Int.toNat_natCast, intsAV_getD, strsAV_getD, objsAV_getD, itemsAV_getD, intsAV_out, strsAV_out, objsAV_out, itemsAV_out, fillO_length, fillO_set]; try simp only [go_sem, seval])))); exact rfl) (by exact rfl)) ?_
    refine wk ?_
    refine AW.pre (St.le.nilcell 2 5 6 (by (simp only [go_sem, seval]; try (simp (disch := omega) only [wrap_i64, wrap_u8, wrap_u64, tdiv_nn, tmod_nn, Int.toNat_natCast_add_one, toNat_sub1, Int.toNat_sub, Int.toNat_natCast, intsAV_getD, strsAV_getD, objsAV_getD, itemsAV_getD, intsAV_out, strsAV_out, objsAV_out, itemsAV_out, fillO_length, fillO_set]; try (simp only [go_sem, seval]; try (simp (disch := omega) only [wrap_i64, wrap_u8, wrap_u64, tdiv_nn, tmod_nn, Int.toNat_natCast_add_one, toNat_sub1, Int.toNat_sub, Int.toNat_natCast, intsAV_getD, strsAV_getD, objsAV_getD, itemsAV_getD, intsAV_out, strsAV_out, objsAV_out, itemsAV_out, fillO_length, fillO_set]; try simp only [go_sem, seval])))); exact rfl) (by exact rfl)) ?_
    refine wk ?_
    refine AW.lk (S := { i : Nat // i ≤ trailK.length }) [1, 2, 3, 23, 24] (fun s_ => [(25, .int .i64 s_.1)]) (fun s_ => [(0, .cells o.cells), (1, .cells [.int .i64 0, .int .i64 0, .int .i64 0, .str [], .raw (.slice none 0 0), .raw (.slice none 0 0)]), (2, .cells [.int .i64 7, .int .i64 0, .int .i64 0, .str [], .row 3 0 (trailerK o s_.1).length, .row 4 0 (trailerK o s_.1).length]), (3, .row 1 (strsAV (trailerK o s_.1)) true), (4, .row 6 (objsAV ((trailerK o s_.1).map (getO o))) true)]) 5 (fun s_ => trailK.length - s_.1) ⟨0, Nat.zero_le _⟩ ?_ ?_
    · refine St.le.vw [0, 1, 2, 3, 4]
    rintro ⟨i, hi⟩
    try dsimp only at hi
    refine AW.rS ?_
    refine AW.seq ?_
    refine AW.c2 ?_ ?_
    · intro h20
      have htl := trailerK_len o i
      have h3 : trailK.length = 3 := rfl
      refine AW.skip ?_
      refine AW.seq ?_
      refine AW.block ?_
      refine AW.rS ?_
      refine AW.rSC ?_
      refine awOps.cons (awGuard.c1 (c_value_Get _ o (trailK.getD i [])) ?_)
      refine awOps.rn ?_
      refine AW.rS ?_
      refine AW.c2 ?_ ?_
      · intro h29
        have hty := trailerK_yes h20 h29
        refine AW.rS ?_
        refine AW.rL ?_
        refine AW.rL ?_
        refine ⟨⟨i + 1, by omega⟩, ?_, ?_⟩
        · refine St.le.vx [0, 1, 2, 7, 9] ?_
          rw [hty]; refine ⟨by rw [List.length_append]; rfl, by simp [strsAV], ?_⟩; rw [List.take_of_length_le (by rw [objsAV_length, List.length_map]; exact Nat.le_refl _), List.map_append, ← objsAV_append, List.map_cons, List.map_nil, ← objsAV_one, Pob.cells_eq]
        · simp only []; omega
      · intro h29
        have hty := trailerK_no h20 h29
        refine AW.skip ?_
        refine AW.rL ?_
        refine ⟨⟨i + 1, by omega⟩, ?_, ?_⟩
        · refine St.le.vx [0, 1, 2, 3, 4] ?_
          rw [hty]; exact ⟨rfl, rfl, rfl⟩
        · simp only []; omega
    · intro h20
      refine AW.exit ?_
      refine AW.rS ?_
      refine AW.rt ?_
      have h3 : trailK.length = 3 := rfl
      obtain rfl : i = 3 := by omega
      rw [trailerO, if_pos hb]
      refine ⟨by rw [List.length_map]; exact Nat.le_refl _, ?_⟩
      rw [List.take_of_length_le (by rw [objsAV_length, List.length_map]; exact Nat.le_refl _)]
      rfl
end Go.Proofs

namespace Aw
open Go
def leastD : Dc := ⟨[⟨2, 0, .mk 7 0 0 [] [[65]] [.mk 8 5 1 [] [] []]⟩, ⟨5, 1, .mk 2 7 0 [] [] []⟩], .mk 7 0 0 [] [[82, 111, 111, 116]] [.mk 8 2 0 [] [] []]⟩
def lvI3 : Itm := ⟨3, 0, .mk 1 0 0 [] [] []⟩
def lvI2 : Itm := ⟨2, 0, .mk 1 0 0 [] [] []⟩
def lvI9 : Itm := ⟨9, 0, .mk 8 2 0 [] [] []⟩
def lvX3 : Itm := ⟨3, 0, .mk 9 0 0 [] [[84, 121, 112, 101]] [.mk 5 0 0 [88, 82, 101, 102] [] []]⟩
def lvN : Pob := .mk 5 0 0 [120] [] []
def lvA : Dc := putO leastD lvI3
def lvC : Dc := addO leastD lvN
def lvT : Pob := .mk 7 0 0 [] [[82, 111, 111, 116], [83, 105, 122, 101]] [.mk 2 1 0 [] [] [], .mk 2 1 0 [] [] []]
end Aw
namespace Aw
open Go
theorem pathL_bulk {d : Dc} (h : d.bulk ≤ 16777216) : ∀ (ks : List (List UInt8)) (o : Pob), o.bulk ≤ 16777216 → (pathL d o ks).bulk ≤ 16777216
  | [], o, ho => by rw [pathL]; exact ho
  | k :: r, o, ho => by
    rw [pathL]
    split
    · simp [Pob.null, Pob.bulk, bulks]
    · have := get_bulk o k
      exact pathL_bulk h r _ (follow_bulk h (by omega))
theorem pathO_bulk {d : Dc} {o : Pob} (h : d.bulk ≤ 16777216) (ho : o.bulk ≤ 16777216) (ks : List (List UInt8)) : (pathO d o ks).bulk ≤ 16777216 := pathL_bulk h ks _ (follow_bulk h ho)
theorem strsAV_app (a b : List (List UInt8)) : strsAV (a ++ b) = strsAV a ++ strsAV b := by simp [strsAV]
end Aw

namespace Go.Proofs
open Go Aw
set_option linter.unusedSimpArgs false
set_option linter.unusedVariables false
set_option maxRecDepth 100000
set_option maxHeartbeats 1000000

theorem c_EqualFunc_Item (gl : List (Nat × AV)) (a b : List Itm) (ha : ibulk a ≤ 16777216) : FnP Try.prog (gl) 62 [.sl (itemsAV a), .sl (itemsAV b), .clos 55 []] fun r => r = .ret (.bool (decide (a = b))) := by
  refine FnP.intro Try.func62 rfl rfl (by simp [Try.ntmps62]) ?_
  simp only [argEnv, Try.ntmps62, Try.results62]
  have hla := ibulk_len a
  refine AW.rS ?_
  refine AW.seq ?_
  refine AW.rS ?_
  refine AW.c2 ?_ ?_
  · intro h4
    refine AW.rS ?_
    refine AW.rt ?_
    rw [decide_eq_false (fun e => h4 (by rw [e]))]
  · intro h4
    refine AW.skip ?_
    refine AW.seq ?_
    refine AW.rS ?_
    refine AW.block ?_
    refine AW.lk (S := { i : Nat // i ≤ a.length ∧ a.take i = b.take i }) [1, 2, 15, 16] (fun s_ => [(17, .int .i64 s_.1)]) (fun s_ => []) 0 (fun s_ => a.length - s_.1) ⟨0, Nat.zero_le _, rfl⟩ ?_ ?_
    · refine St.le.vw []
    rintro ⟨i, hi, hs⟩
    try dsimp only at hi
    try dsimp only at hs
    refine AW.rS ?_
    refine AW.seq ?_
    refine AW.c2 ?_ ?_
    · intro h15
      have hga := ibulk_get (l := a) (i := i) (by omega)
      refine AW.skip ?_
      refine AW.seq ?_
      refine AW.block ?_
      refine AW.rS ?_
      refine AW.rS ?_
      refine AW.rSC ?_
      refine awOps.cons (awGuard.c1 (c_docs_same _ (a.getD i Itm.zero) (b.getD i Itm.zero) (by omega)) ?_)
      refine awOps.rn ?_
      refine AW.c2 ?_ ?_
      · intro h24
        refine AW.rS ?_
        refine AW.rt ?_
        rw [decide_eq_false (fun e => h24 (by rw [e]))]
      · intro h24
        refine AW.skip ?_
        refine AW.rL ?_
        refine ⟨⟨i + 1, by omega, takeItm_succ h15 (by omega) hs h24⟩, ?_, ?_⟩
        · refine St.le.vw []
        · simp only []; omega
    · intro h15
      refine AW.exit ?_
      refine AW.rS ?_
      refine AW.rt ?_
      rw [List.take_of_length_le (by omega), List.take_of_length_le (by omega)] at hs
      simp [hs]
theorem c_docs_Same (gl : List (Nat × AV)) (a b : Dc) (h : a.bulk ≤ 16777216 := by first | omega | exact u8_le _ | assumption | (simp; done) | (simp; omega)) : FnP Try.prog (gl) 17 [.agg a.cells, .agg b.cells] fun r => r = .ret (.bool (decide (a = b))) := by
  refine FnP.intro Try.func17 rfl rfl (by simp [Try.ntmps17]) ?_
  simp only [argEnv, Try.ntmps17, Try.results17]
  simp only [Dc.bulk] at h
  refine AW.rS ?_
  refine AW.rSC ?_
  refine awOps.cons (awGuard.c1 (c_EqualFunc_Item _ a.items b.items (by omega)) ?_)
  refine awOps.rn ?_
  refine awOps.cons (awGuard.cG (fun hg => c_value_Same _ a.trailer b.trailer (by omega)) ?_)
  refine awOps.rn ?_
  refine AW.rt ?_
  rw [show ∀ x y : Bool, x = y → AE.ret (.bool x) = AE.ret (.bool y) from fun _ _ h => by rw [h]]
  rw [Bool.eq_iff_iff]
  simp only [decide_eq_true_eq, Bool.cond_false_right, Bool.and_eq_true, Dc_eq a b]
theorem c_foliantref05_Texts (gl : List (Nat × AV)) (a b : List (List UInt8)) (ha : a.length ≤ 16777216 := by first | omega | exact u8_le _ | assumption | (simp; done) | (simp; omega)) : FnP Try.prog (gl) 110 [.sl (strsAV a), .sl (strsAV b)] fun r => r = .ret (.bool (decide (a = b))) := by
  refine FnP.intro Try.func110 rfl rfl (by simp [Try.ntmps110]) ?_
  simp only [argEnv, Try.ntmps110, Try.results110]
  refine AW.rS ?_
  refine AW.seq ?_
  refine AW.rS ?_
  refine AW.c2 ?_ ?_
  · intro h4
    refine AW.rS ?_
    refine AW.rt ?_
    rw [decide_eq_false (fun e => h4 (by rw [e]))]
  · intro h4
    refine AW.skip ?_
    refine AW.seq ?_
    refine AW.rS ?_
    refine AW.block ?_
    refine AW.lk (S := { i : Nat // i ≤ a.length ∧ a.take i = b.take i }) [0, 1, 12] (fun s_ => [(13, .int .i64 s_.1)]) (fun s_ => []) 0 (fun s_ => a.length - s_.1) ⟨0, Nat.zero_le _, rfl⟩ ?_ ?_
    · refine St.le.vw []
    rintro ⟨i, hi, hs⟩
    try dsimp only at hi
    try dsimp only at hs
    refine AW.rS ?_
    refine AW.seq ?_
    refine AW.c2 ?_ ?_
    · intro h15
      refine AW.skip ?_
      refine AW.seq ?_
      refine AW.block ?_
      refine AW.rS ?_
      refine AW.dS [(0, 0), (1, 0), (2, 1), (3, 1), (4, 0), (5, 0), (6, 1), (7, 1), (8, 0)] ?_
      refine AW.c2 ?_ ?_
      · intro h21
        refine AW.rS ?_
        refine AW.rt ?_
        rw [decide_eq_false (fun e => h21 (by rw [e]))]
      · intro h21
        refine AW.skip ?_
        refine AW.rL ?_
        refine ⟨⟨i + 1, by omega, takeS_succ h15 (by omega) hs h21⟩, ?_, ?_⟩
        · refine St.le.vw []
        · simp only []; omega
    · intro h15
      refine AW.exit ?_
      refine AW.rS ?_
      refine AW.rt ?_
      rw [List.take_of_length_le (by omega), List.take_of_length_le (by omega)] at hs
      simp [hs]
theorem rlist_step (gl : List (Nat × AV)) (N : Nat) (ih : ∀ x y : Pob, x.bulk < N → FnP Try.prog gl 69 [.agg x.cells, .agg y.cells] fun r => r = .ret (.bool (decide (x = y)))) (a b : List Pob) (ha : a.length ≤ 16777216) (hb : ∀ i, i < a.length → (a.getD i Pob.null).bulk < N) : FnP Try.prog (gl) 111 [.sl (objsAV a), .sl (objsAV b)] fun r => r = .ret (.bool (decide (a = b))) := by
  refine FnP.intro Try.func111 rfl rfl (by simp [Try.ntmps111]) ?_
  simp only [argEnv, Try.ntmps111, Try.results111]
  refine AW.rS ?_
  refine AW.seq ?_
  refine AW.rS ?_
  refine AW.c2 ?_ ?_
  · intro h4
    refine AW.rS ?_
    refine AW.rt ?_
    rw [decide_eq_false (fun e => h4 (by rw [e]))]
  · intro h4
    refine AW.skip ?_
    refine AW.seq ?_
    refine AW.rS ?_
    refine AW.block ?_
    refine AW.lk (S := { i : Nat // i ≤ a.length ∧ a.take i = b.take i }) [0, 1, 12] (fun s_ => [(13, .int .i64 s_.1)]) (fun s_ => []) 0 (fun s_ => a.length - s_.1) ⟨0, Nat.zero_le _, rfl⟩ ?_ ?_
    · refine St.le.vw []
    rintro ⟨i, hi, hs⟩
    try dsimp only at hi
    try dsimp only at hs
    refine AW.rS ?_
    refine AW.seq ?_
    refine AW.c2 ?_ ?_
    · intro h15
      refine AW.skip ?_
      refine AW.seq ?_
      refine AW.block ?_
      refine AW.rS ?_
      refine AW.dSC [(0, 0), (1, 0), (2, 0), (3, 1), (4, 0), (5, 0), (6, 0), (7, 1), (8, 2), (9, 0)] ?_
      refine awPlan.only rfl ?_
      refine awGuard.c1 (ih (a.getD i Pob.null) (b.getD i Pob.null) (hb i (by omega))) ?_
      refine awPlan.rn ?_
      refine AW.c2 ?_ ?_
      · intro h23
        refine AW.rS ?_
        refine AW.rt ?_
        rw [decide_eq_false (fun e => h23 (by rw [e]))]
      · intro h23
        refine AW.skip ?_
        refine AW.rL ?_
        refine ⟨⟨i + 1, by omega, takeO_succ h15 (by omega) hs h23⟩, ?_, ?_⟩
        · refine St.le.vw []
        · simp only []; omega
    · intro h15
      refine AW.exit ?_
      refine AW.rS ?_
      refine AW.rt ?_
      rw [List.take_of_length_le (by omega), List.take_of_length_le (by omega)] at hs
      simp [hs]
theorem rsame_step (gl : List (Nat × AV)) (N : Nat) (hN : N ≤ 16777216) (ih : ∀ x y : Pob, x.bulk < N → FnP Try.prog gl 69 [.agg x.cells, .agg y.cells] fun r => r = .ret (.bool (decide (x = y)))) (a b : Pob) (ha : a.bulk ≤ N) : FnP Try.prog (gl) 69 [.agg a.cells, .agg b.cells] fun r => r = .ret (.bool (decide (a = b))) := by
  refine FnP.intro Try.func69 rfl rfl (by simp [Try.ntmps69]) ?_
  simp only [argEnv, Try.ntmps69, Try.results69]
  have hbulk := Pob.bulk_eq a
  refine AW.rS ?_
  refine AW.rSC ?_
  refine awOps.cons (awGuard.cG (fun hg => c_foliantref05_Texts _ a.keys b.keys (by omega)) ?_)
  refine awOps.rn ?_
  refine awOps.cons (awGuard.cG (fun hg => rlist_step _ N ih a.kids b.kids (by omega) (fun i hi => Nat.lt_of_lt_of_le (Pob.bulk_kid hi) ha)) ?_)
  refine awOps.rn ?_
  refine AW.rt ?_
  rw [show ∀ x y : Bool, x = y → AE.ret (.bool x) = AE.ret (.bool y) from fun _ _ h => by rw [h]]
  rw [Bool.eq_iff_iff]
  simp only [decide_eq_true_eq, Bool.cond_false_right, Bool.and_eq_true, Pob_eq a b, and_assoc]
theorem rsame_all (gl : List (Nat × AV)) (N : Nat) : N ≤ 16777216 → ∀ x y : Pob, x.bulk ≤ N → FnP Try.prog gl 69 [.agg x.cells, .agg y.cells] fun r => r = .ret (.bool (decide (x = y))) := by
  induction N using Nat.strongRecOn with
  | ind N IH => exact fun hN x y hx => rsame_step gl N hN (fun x' y' h => IH x'.bulk h (by omega) x' y' (Nat.le_refl _)) x y hx
theorem c_foliantref05_Same (gl : List (Nat × AV)) (x y : Pob) (h : x.bulk ≤ 16777216 := by first | assumption | omega) : FnP Try.prog gl 69 [.agg x.cells, .agg y.cells] fun r => r = .ret (.bool (decide (x = y))) := rsame_all gl 16777216 (Nat.le_refl _) x y h
theorem c_foliantref19_SameItem (gl : List (Nat × AV)) (a b : Itm) (h : a.obj.bulk ≤ 16777216 := by first | omega | exact u8_le _ | assumption | (simp; done) | (simp; omega)) : FnP Try.prog (gl) 24 [.agg a.cells, .agg b.cells] fun r => r = .ret (.bool (decide (a = b))) := by
  refine FnP.intro Try.func24 rfl rfl (by simp [Try.ntmps24]) ?_
  simp only [argEnv, Try.ntmps24, Try.results24]
  refine AW.rS ?_
  refine AW.rSC ?_
  refine awOps.cons (awGuard.cG (fun hg => c_foliantref05_Same _ a.obj b.obj) ?_)
  refine awOps.rn ?_
  refine AW.rt ?_
  rw [show ∀ x y : Bool, x = y → AE.ret (.bool x) = AE.ret (.bool y) from fun _ _ h => by rw [h]]
  rw [Bool.eq_iff_iff]
  simp only [decide_eq_true_eq, Bool.cond_false_right, Bool.and_eq_true, Itm_eq a b, and_assoc]
theorem size_step (gl : List (Nat × AV)) (N : Nat) (hN : N ≤ 16777216) (ih : ∀ o' : Pob, o'.bulk < N → o'.psize ≤ 4611686018427387904 → FnP Try.prog gl 18 [.agg o'.cells] fun r => r = .ret (.int .i64 o'.psize)) (o : Pob) (ho : o.bulk ≤ N) (hp : o.psize ≤ 4611686018427387904) : FnP Try.prog (gl) 18 [.agg o.cells] fun r => r = .ret (.int .i64 o.psize) := by
  refine FnP.intro Try.func18 rfl rfl (by simp [Try.ntmps18]) ?_
  simp only [argEnv, Try.ntmps18, Try.results18]
  have hb := Pob.bulk_eq o
  have hpe := Pob.psize_eq o
  have hk0 := ksize_nil
  have hp0 := psizes_nil
  refine AW.rS ?_
  refine AW.rS ?_
  refine AW.seq ?_
  refine AW.rS ?_
  refine AW.block ?_
  refine AW.lk (S := { i : Nat // i ≤ o.keys.length }) [1, 14, 15] (fun s_ => [(3, .int .i64 ((1 + o.str.length / 50 + ksize (o.keys.take s_.1) : Nat) : Int)), (16, .int .i64 s_.1)]) (fun s_ => [(0, .cells o.cells)]) 1 (fun s_ => o.keys.length - s_.1) ⟨0, Nat.zero_le _⟩ ?_ ?_
  · refine St.le.vw [0]
  rintro ⟨i, hi⟩
  try dsimp only at hi
  refine AW.rS ?_
  refine AW.seq ?_
  refine AW.c2 ?_ ?_
  · intro h9
    have h1 := ksize_take h9
    have h2 := ksize_take_le o.keys (i + 1)
    refine AW.skip ?_
    refine AW.seq ?_
    refine AW.block ?_
    refine AW.rS ?_
    refine AW.rL ?_
    refine AW.rL ?_
    refine ⟨⟨i + 1, by omega⟩, ?_, ?_⟩
    · refine St.le.vw [0]
    · simp only []; omega
  · intro h9
    refine AW.exit ?_
    obtain rfl : i = o.keys.length := by omega
    rw [List.take_length]
    refine AW.seq ?_
    refine AW.rS ?_
    refine AW.block ?_
    refine AW.lk (S := { i : Nat // i ≤ o.kids.length }) [27, 28] (fun s_ => [(3, .int .i64 ((1 + o.str.length / 50 + ksize o.keys + psizes (o.kids.take s_.1) : Nat) : Int)), (29, .int .i64 s_.1)]) (fun s_ => [(0, .cells o.cells)]) 1 (fun s_ => o.kids.length - s_.1) ⟨0, Nat.zero_le _⟩ ?_ ?_
    · refine St.le.vw [0]
    rintro ⟨j, hj⟩
    try dsimp only at hj
    refine AW.rS ?_
    refine AW.seq ?_
    refine AW.c2 ?_ ?_
    · intro h24
      have h1 := psizes_take h24
      have h2 := psizes_take_le o.kids (j + 1)
      have h3 := psizes_get h24
      refine AW.skip ?_
      refine AW.seq ?_
      refine AW.block ?_
      refine AW.rS ?_
      refine AW.rLC ?_
      refine awOps.cons (awGuard.c1 (ih (o.kids.getD j Pob.null) (Nat.lt_of_lt_of_le (Pob.bulk_kid (by omega)) ho) (by omega)) ?_)
      refine awOps.rn ?_
      refine AW.rL ?_
      refine ⟨⟨j + 1, by omega⟩, ?_, ?_⟩
      · refine St.le.vw [0]
      · simp only []; omega
    · intro h24
      refine AW.exit ?_
      refine AW.rS ?_
      refine AW.rt ?_
      obtain rfl : j = o.kids.length := by omega
      rw [List.take_length, hpe]
theorem size_all (gl : List (Nat × AV)) (N : Nat) : N ≤ 16777216 → ∀ o : Pob, o.bulk ≤ N → o.psize ≤ 4611686018427387904 → FnP Try.prog gl 18 [.agg o.cells] fun r => r = .ret (.int .i64 o.psize) := by
  induction N using Nat.strongRecOn with
  | ind N IH => exact fun hN x hx hp => size_step gl N hN (fun x' h hp' => IH x'.bulk h (by omega) x' (Nat.le_refl _) hp') x hx hp
theorem c_foliantref05_Size (gl : List (Nat × AV)) (o : Pob) (h : o.bulk ≤ 16777216) (hp : o.psize ≤ 4611686018427387904) : FnP Try.prog gl 18 [.agg o.cells] fun r => r = .ret (.int .i64 o.psize) := size_all gl 16777216 (Nat.le_refl _) o h hp
theorem c_foliantref19_Size (gl : List (Nat × AV)) (d : Dc) (h : d.bulk ≤ 16777216) (hp : d.size ≤ 4611686018427387904) : FnP Try.prog (gl) 13 [.agg d.cells] fun r => r = .ret (.int .i64 d.size) := by
  refine FnP.intro Try.func13 rfl rfl (by simp [Try.ntmps13]) ?_
  simp only [argEnv, Try.ntmps13, Try.results13]
  have hlen := ibulk_len d.items
  have hdb : d.bulk = ibulk d.items + d.trailer.bulk := rfl
  have hds : d.size = d.trailer.psize + isize d.items := rfl
  have hk0 := isize_nil
  refine AW.rS ?_
  refine AW.rSC ?_
  refine awOps.cons (awGuard.c1 (c_foliantref05_Size _ d.trailer (by omega) (by omega)) ?_)
  refine awOps.rn ?_
  refine AW.seq ?_
  refine AW.rS ?_
  refine AW.block ?_
  refine AW.lk (S := { i : Nat // i ≤ d.items.length }) [10, 11] (fun s_ => [(3, .int .i64 ((d.trailer.psize + isize (d.items.take s_.1) : Nat) : Int)), (12, .int .i64 s_.1)]) (fun s_ => [(0, .cells d.cells)]) 1 (fun s_ => d.items.length - s_.1) ⟨0, Nat.zero_le _⟩ ?_ ?_
  · refine St.le.vw [0]
  rintro ⟨i, hi⟩
  try dsimp only at hi
  refine AW.rS ?_
  refine AW.seq ?_
  refine AW.c2 ?_ ?_
  · intro h11
    have h1 := isize_take h11
    have h2 := isize_take_le d.items (i + 1)
    have hgb := ibulk_get (l := d.items) (i := i) (by omega)
    refine AW.skip ?_
    refine AW.seq ?_
    refine AW.block ?_
    refine AW.rS ?_
    refine AW.rLC ?_
    refine awOps.cons (awGuard.c1 (c_foliantref05_Size _ (d.items.getD i Itm.zero).obj (by omega) (by omega)) ?_)
    refine awOps.rn ?_
    refine AW.rL ?_
    refine ⟨⟨i + 1, by omega⟩, ?_, ?_⟩
    · refine St.le.vw [0]
    · simp only []; omega
  · intro h11
    refine AW.exit ?_
    refine AW.rS ?_
    refine AW.rt ?_
    obtain rfl : i = d.items.length := by omega
    rw [List.take_length, hds]
theorem c_foliantlaw19_Least (gl : List (Nat × AV))  : FnP Try.prog (gl) 49 [] fun r => r = .ret (.agg leastD.cells) := by
  refine FnP.intro Try.func49 rfl rfl (by simp [Try.ntmps49]) ?_
  simp only [argEnv, Try.ntmps49, Try.results49]
  refine AW.rS ?_
  refine AW.rS ?_
  refine AW.rt ?_
  all_goals first | contradiction | rfl | (simp; done) | (simp; omega)
end Go.Proofs

namespace Aw
open Go
mutual
def Pob.pre : Pob → List Pob
  | .mk k n g s ks l => .mk k n g s ks l :: pres l
def pres : List Pob → List Pob
  | [] => []
  | o :: l => o.pre ++ pres l
end
theorem pres_nil : pres [] = [] := by simp only [pres]
theorem Pob.pre_eq (o : Pob) : o.pre = o :: pres o.kids := by cases o; simp only [Pob.pre, Pob.kids]
theorem pres_append (a b : List Pob) : pres (a ++ b) = pres a ++ pres b := by
  induction a with
  | nil => simp [pres]
  | cons x a ih => simp only [List.cons_append, pres, ih, List.append_assoc]
theorem pres_take {l : List Pob} {i : Nat} (h : i < l.length) : pres (l.take (i + 1)) = pres (l.take i) ++ (l.getD i Pob.null).pre := by
  rw [List.take_succ_eq_append_getElem h, pres_append]
  simp [pres, List.getD, h]
mutual
theorem Pob.pre_le : ∀ o : Pob, o.pre.length ≤ o.bulk
  | .mk k n g s ks l => by simp only [Pob.pre, Pob.bulk, List.length_cons]; have := pres_le l; omega
theorem pres_le : ∀ l : List Pob, (pres l).length ≤ bulks l
  | [] => by simp [pres]
  | o :: l => by simp only [pres, bulks, List.length_append]; have := Pob.pre_le o; have := pres_le l; omega
end
attribute [irreducible] Pob.pre pres
end Aw
