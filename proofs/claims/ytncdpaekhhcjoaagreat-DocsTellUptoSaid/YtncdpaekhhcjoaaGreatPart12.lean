/- A part of the proof of a law of the seat: no condition of its own. -/
import Derived.Test.YtncdpaekhhcjoaaGreatPart11
namespace Go.Proofs
open Go Aw
set_option linter.unusedSimpArgs false
set_option linter.unusedVariables false
set_option maxRecDepth 100000
set_option maxHeartbeats 1000000

theorem h_docs_fresh (gl : List (Nat × AV)) (d : Dc) (h : d.bulk ≤ 16777216 := by first | omega | exact u8_le _ | assumption | (simp; done) | (simp; omega)) : FnH Tryz.prog (gl) 73 [.agg d.cells] ([]) 0 (fun r h n => r = .ret (.agg [.row 1 0 d.items.length, .int .i64 d.trailer.kind, .int .i64 d.trailer.num, .int .i64 d.trailer.gen, .str d.trailer.str, .sl (strsAV d.trailer.keys), .sl (objsAV d.trailer.kids)]) ∧ h = [(0, .cells [.row 1 0 d.items.length, .int .i64 d.trailer.kind, .int .i64 d.trailer.num, .int .i64 d.trailer.gen, .str d.trailer.str, .sl (strsAV d.trailer.keys), .sl (objsAV d.trailer.kids)]), (1, .row 8 (itemsAV d.items) true)] ∧ n = 2) := by
  refine FnH.intro Tryz.func73 rfl rfl (by simp [Tryz.ntmps73]) ?_
  simp only [argEnv, Tryz.ntmps73, Tryz.results73]
  simp only [Dc.bulk] at h
  have hlen := ibulk_len d.items
  refine AW.rS ?_
  refine AW.rSC ?_
  refine awOps.cons (awGuard.c1 (c_value_Clone _ d.trailer) ?_)
  refine awOps.rn ?_
  refine AW.seq ?_
  refine AW.rS ?_
  refine AW.block ?_
  refine AW.pre (St.le.nilcell 2 0 8 (by (simp only [go_sem, seval]; try (simp (disch := omega) only [wrap_i64, wrap_u8, wrap_u64, tdiv_nn, tmod_nn, Int.toNat_natCast_add_one, toNat_sub1, Int.toNat_sub, Int.toNat_natCast, intsAV_getD, strsAV_getD, objsAV_getD, itemsAV_getD, intsAV_out, strsAV_out, objsAV_out, itemsAV_out, fillO_length, fillO_set]; try (simp only [go_sem, seval]; try (simp (disch := omega) only [wrap_i64, wrap_u8, wrap_u64, tdiv_nn, tmod_nn, Int.toNat_natCast_add_one, toNat_sub1, Int.toNat_sub, Int.toNat_natCast, intsAV_getD, strsAV_getD, objsAV_getD, itemsAV_getD, intsAV_out, strsAV_out, objsAV_out, itemsAV_out, fillO_length, fillO_set]; try simp only [go_sem, seval])))); exact rfl) (by exact rfl)) ?_
  refine wk ?_
  refine AW.lk (S := { i : Nat // i ≤ d.items.length }) [2, 3, 11, 12] (fun s_ => [(13, .int .i64 s_.1)]) (fun s_ => [(0, .cells d.cells), (1, .cells [.raw (.slice none 0 0), .int .i64 0, .int .i64 0, .int .i64 0, .str [], .raw (.slice none 0 0), .raw (.slice none 0 0)]), (2, .cells [.row 3 0 s_.1, .int .i64 d.trailer.kind, .int .i64 d.trailer.num, .int .i64 d.trailer.gen, .str d.trailer.str, .sl (strsAV d.trailer.keys), .sl (objsAV d.trailer.kids)]), (3, .row 8 (itemsAV (d.items.take s_.1)) true)]) 4 (fun s_ => d.items.length - s_.1) ⟨0, Nat.zero_le _⟩ ?_ ?_
  · refine St.le.vw [0, 1, 2, 3]
  rintro ⟨i, hi⟩
  try dsimp only at hi
  refine AW.rS ?_
  refine AW.seq ?_
  refine AW.c2 ?_ ?_
  · intro h11
    have hgb := ibulk_get (l := d.items) (i := i) (by omega)
    refine AW.skip ?_
    refine AW.seq ?_
    refine AW.block ?_
    refine AW.rS ?_
    refine AW.fL [0, 1, 2, 3, 4] [(5, 2), (6, 2), (7, 2)] ?_
    refine awFun.rn ?_
    refine awFun.c1 [19] (c_docs_copied _ (d.items.getD i Itm.zero)) ?_
    refine awFun.rn ?_
    refine awFun.bs [20] ?_
    refine awFun.rn ?_
    rw [Aw.awFun_nil]
    refine awPlan.rn ?_
    refine AW.rL ?_
    refine ⟨⟨i + 1, by omega⟩, ?_, ?_⟩
    · refine St.le.vx [0, 1, 2, 5] ?_
      have hsn := itemsAV_snoc' d.items i h11; rw [List.take_of_length_le (by rw [itemsAV_length, List.length_take]; omega), hsn]
    · simp only []; omega
  · intro h11
    refine AW.exit ?_
    obtain rfl : i = d.items.length := by omega
    rw [List.take_length]
    refine AW.rS ?_
    refine AW.vw [1, 3] [(2, .ptr 0 0)] [(0, .cells [.row 1 0 d.items.length, .int .i64 d.trailer.kind, .int .i64 d.trailer.num, .int .i64 d.trailer.gen, .str d.trailer.str, .sl (strsAV d.trailer.keys), .sl (objsAV d.trailer.kids)]), (1, .row 8 (itemsAV d.items) true)] ?_
    refine AW.rt ?_
    all_goals first | contradiction | rfl | (simp; done) | (simp; omega)
theorem h_docs_take (gl : List (Nat × AV)) (l : List Itm) (q : Int) (hl : l.length ≤ 16777216 := by first | omega | exact u8_le _ | assumption | (simp; done) | (simp; omega)) (hs : incrN l := by first | omega | exact u8_le _ | assumption | (simp; done) | (simp; omega)) : FnH Tryz.prog (gl) 79 [.row 0 0 l.length, .int .i64 q] ([(0, .row 8 (itemsAV l) true)]) 1 (fun r h n => r = .ret (.tup [.row 0 0 (takeI l q).length, .bool (ithere l q)]) ∧ h = [(0, .row 8 (itemsAV (takeI l q)) true)] ∧ n = 1) := by
  refine FnH.intro Tryz.func79 rfl rfl (by simp [Tryz.ntmps79]) ?_
  simp only [argEnv, Tryz.ntmps79, Tryz.results79]
  refine AW.rS ?_
  refine AW.rSC ?_
  refine awOps.cons (awGuard.cH [0] (h_BinSearch_Item _ l q) ?_)
  refine awOps.rn ?_
  refine AW.seq ?_
  refine AW.rS ?_
  refine AW.c2 ?_ ?_
  · intro h7
    refine AW.rS ?_
    refine AW.rt ?_
    simp [takeI, h7]
  · intro h7
    refine AW.skip ?_
    have hlt := ithere_lt h7
    refine AW.rSC ?_
    refine awOps.cons (awGuard.cH [0] (h_Del_itm _ l (iplace l q) (ithere_lt h7)) ?_)
    refine awOps.rn ?_
    refine AW.rt ?_
    have e : iplace l q + (l.length - (iplace l q + 1)) = (delAt l (iplace l q)).length := by rw [delAt_length hlt]; omega
    rw [e]
    simp [takeI, h7]
theorem h_docs_lay (gl : List (Nat × AV)) (l : List Itm) (i : Itm) (hl : l.length ≤ 16777216 := by first | omega | exact u8_le _ | assumption | (simp; done) | (simp; omega)) (hb : i.obj.bulk ≤ 16777216 := by first | omega | exact u8_le _ | assumption | (simp; done) | (simp; omega)) (hs : incrN l := by first | omega | exact u8_le _ | assumption | (simp; done) | (simp; omega)) : FnH Tryz.prog (gl) 74 [.row 0 0 l.length, .agg i.cells] ([(0, .row 8 (itemsAV l) true)]) 1 (fun r h n => r = .ret (.row 1 0 (layI l i).length) ∧ h = [(1, .row 8 (itemsAV (layI l i)) true)] ∧ n = 2) := by
  refine FnH.intro Tryz.func74 rfl rfl (by simp [Tryz.ntmps74]) ?_
  simp only [argEnv, Tryz.ntmps74, Tryz.results74]
  refine AW.rS ?_
  refine AW.rSC ?_
  refine awOps.cons (awGuard.cH [0] (h_BinSearch_Item _ l i.num) ?_)
  refine awOps.rn ?_
  refine AW.seq ?_
  refine AW.rS ?_
  refine AW.c2 ?_ ?_
  · intro h7
    have hlt := ithere_lt h7
    have hset : layI l i = l.set (iplace l i.num) i := by rw [layI, if_pos h7]
    refine AW.rSC ?_
    refine awOps.cons (awGuard.c1 (c_docs_copied _ i) ?_)
    refine awOps.rn ?_
    refine AW.rS ?_
    rw [hset]
    refine AW.rnm 4 ?_
    refine wk ?_
    refine AW.vw [0, 2] [(4, .row 1 0 l.length)] [(1, .row 8 ((itemsAV l).set (iplace l i.num) i.cells) true)] ?_
    refine AW.rt ?_
    rw [itemsAV_set', List.length_set]
    exact ⟨rfl, rfl⟩
  · intro h7
    refine AW.skip ?_
    refine AW.rSC ?_
    refine awOps.cons (awGuard.c1 (c_docs_copied _ i) ?_)
    refine awOps.rn ?_
    refine awOps.cons (awGuard.cH [0, 2] (h_Ins_itm _ l i (iplace l i.num) (iplace_le _ _)) ?_)
    refine awOps.rn ?_
    have hins : layI l i = insAt l (iplace l i.num) i := by rw [layI, if_neg (by simp [h7])]
    rw [hins]
    refine AW.vw [0, 3] [(4, .row 1 0 (l.length + 1))] [(1, .row 8 (itemsAV (insAt l (iplace l i.num) i)) true)] ?_
    refine AW.rt ?_
    all_goals simp [insAt_length]
theorem c_docs_told (gl : List (Nat × AV)) (d : Dc) (h : d.bulk ≤ 16777216 := by first | omega | exact u8_le _ | assumption | (simp; done) | (simp; omega)) : FnP Tryz.prog (gl) 75 [.agg d.cells] fun r => r = .ret (.tup [.agg (if docE d = 0 then d else Dc.zero).cells, .int .i64 (docE d)]) := by
  refine FnP.intro Tryz.func75 rfl rfl (by simp [Tryz.ntmps75]) ?_
  simp only [argEnv, Tryz.ntmps75, Tryz.results75]
  refine AW.rS ?_
  refine AW.seq ?_
  refine AW.rSC ?_
  refine awOps.cons (awGuard.c1 (c_docs_Check _ d) ?_)
  refine awOps.rn ?_
  refine AW.rS ?_
  refine AW.c2 ?_ ?_
  · intro h7
    refine AW.rS ?_
    refine AW.rt ?_
    rw [if_neg h7]; rfl
  · intro h7
    refine AW.skip ?_
    refine AW.rS ?_
    refine AW.rt ?_
    rw [if_pos h7, h7]
end Go.Proofs

namespace Go.Proofs
open Go Aw
set_option linter.unusedSimpArgs false
set_option linter.unusedVariables false
set_option maxRecDepth 100000
set_option maxHeartbeats 1000000

theorem c_docs_Put (gl : List (Nat × AV)) (d : Dc) (i : Itm) (h : d.bulk + i.obj.bulk ≤ 16777000 := by first | omega | exact u8_le _ | assumption | (simp; done) | (simp; omega)) : FnP Tryz.prog (gl) 9 [.agg d.cells, .agg i.cells] fun r => r = .ret (.tup [.agg (putO d i).cells, .int .i64 (putE d i)]) := by
  refine FnP.intro Tryz.func9 rfl rfl (by simp [Tryz.ntmps9]) ?_
  simp only [argEnv, Tryz.ntmps9, Tryz.results9]
  have hlen := ibulk_len d.items
  have hlb := layI_bulk d.items i
  have hdb : d.bulk = ibulk d.items + d.trailer.bulk := rfl
  refine AW.rS ?_
  refine AW.seq ?_
  refine AW.rSC ?_
  refine awOps.cons (awGuard.c1 (c_docs_Check _ d (by omega)) ?_)
  refine awOps.rn ?_
  refine AW.rS ?_
  refine AW.c2 ?_ ?_
  · intro h7
    refine AW.rS ?_
    refine AW.rt ?_
    rw [(put_doc h7).1, (put_doc h7).2]; rfl
  · intro h7
    refine AW.skip ?_
    refine AW.seq ?_
    refine AW.rSC ?_
    refine awOps.cons (awGuard.c1 (c_docs_alone _ i (by omega)) ?_)
    refine awOps.rn ?_
    refine AW.rS ?_
    refine AW.c2 ?_ ?_
    · intro h17
      refine AW.rS ?_
      refine AW.rt ?_
      rw [(put_alone h7 h17).1, (put_alone h7 h17).2]; rfl
    · intro h17
      refine AW.skip ?_
      have hs := doc_incr h7
      refine AW.rSC ?_
      refine awOps.cons (awGuard.cH [] (h_docs_fresh _ d (by omega)) ?_)
      refine awOps.rn ?_
      refine AW.rSC ?_
      refine awOps.cons (awGuard.cH [4] (h_docs_lay _ d.items i (by omega) (by omega) hs) ?_)
      refine awOps.rn ?_
      refine AW.rSC ?_
      refine awOps.cons (awGuard.c1 (c_docs_told _ ⟨layI d.items i, d.trailer⟩ (by simp only [Dc.bulk]; omega)) ?_)
      refine awOps.rn ?_
      refine AW.rt ?_
      rw [(put_ok h7 h17).1, (put_ok h7 h17).2]
theorem c_docs_Drop (gl : List (Nat × AV)) (d : Dc) (q : Int) (h : d.bulk ≤ 16777000 := by first | omega | exact u8_le _ | assumption | (simp; done) | (simp; omega)) : FnP Tryz.prog (gl) 11 [.agg d.cells, .int .i64 q] fun r => r = .ret (.tup [.agg (dropD d q).cells, .int .i64 (dropE d q)]) := by
  refine FnP.intro Tryz.func11 rfl rfl (by simp [Tryz.ntmps11]) ?_
  simp only [argEnv, Tryz.ntmps11, Tryz.results11]
  have hlen := ibulk_len d.items
  have hlb := takeI_bulk d.items q
  have hdb : d.bulk = ibulk d.items + d.trailer.bulk := rfl
  refine AW.rS ?_
  refine AW.seq ?_
  refine AW.rSC ?_
  refine awOps.cons (awGuard.c1 (c_docs_Check _ d (by omega)) ?_)
  refine awOps.rn ?_
  refine AW.rS ?_
  refine AW.c2 ?_ ?_
  · intro h7
    refine AW.rS ?_
    refine AW.rt ?_
    rw [(drop_doc h7).1, (drop_doc h7).2]; rfl
  · intro h7
    refine AW.skip ?_
    have hs := doc_incr h7
    refine AW.rSC ?_
    refine awOps.cons (awGuard.cH [] (h_docs_fresh _ d (by omega)) ?_)
    refine awOps.rn ?_
    refine AW.rSC ?_
    refine awOps.cons (awGuard.cH [3] (h_docs_take _ d.items q (by omega) hs) ?_)
    refine awOps.rn ?_
    refine AW.seq ?_
    refine AW.rS ?_
    refine AW.c2 ?_ ?_
    · intro h20
      refine AW.rS ?_
      refine AW.rt ?_
      rw [(drop_none h7 h20).1, (drop_none h7 h20).2]; rfl
    · intro h20
      refine AW.skip ?_
      refine AW.rS ?_
      refine AW.rSC ?_
      refine awOps.cons (awGuard.c1 (c_docs_told _ ⟨takeI d.items q, d.trailer⟩ (by simp only [Dc.bulk]; omega)) ?_)
      refine awOps.rn ?_
      refine AW.rt ?_
      rw [(drop_ok h7 h20).1, (drop_ok h7 h20).2]
theorem c_docs_Free (gl : List (Nat × AV)) (d : Dc) (h : d.bulk ≤ 16777000 := by first | omega | exact u8_le _ | assumption | (simp; done) | (simp; omega)) : FnP Tryz.prog (gl) 13 [.agg d.cells] fun r => r = .ret (.tup [.int .i64 (freeN d), .int .i64 (freeE d)]) := by
  refine FnP.intro Tryz.func13 rfl rfl (by simp [Tryz.ntmps13]) ?_
  simp only [argEnv, Tryz.ntmps13, Tryz.results13]
  have hlen := ibulk_len d.items
  have hdb : d.bulk = ibulk d.items + d.trailer.bulk := rfl
  refine AW.rS ?_
  refine AW.seq ?_
  refine AW.rSC ?_
  refine awOps.cons (awGuard.c1 (c_docs_Check _ d (by omega)) ?_)
  refine awOps.rn ?_
  refine AW.rS ?_
  refine AW.c2 ?_ ?_
  · intro h7
    refine AW.rS ?_
    refine AW.rt ?_
    rw [(free_doc h7).1, (free_doc h7).2]
  · intro h7
    refine AW.skip ?_
    refine AW.rS ?_
    refine AW.seq ?_
    refine AW.rS ?_
    refine AW.rS ?_
    refine AW.c2 ?_ ?_
    · intro h16
      have hnb := ((items_iff.1 (docE_items h7)).2 _ (getD_mem (l := d.items) (i := d.items.length - 1) (by omega))).1
      simp only [numsB, Bool.and_eq_true, decide_eq_true_eq] at hnb
      have hln : lastN d.items = (d.items.getD (d.items.length - 1) Itm.zero).num + 1 := by rw [lastN, if_neg (by omega)]
      refine AW.rL ?_
      refine AW.seq ?_
      refine AW.rS ?_
      refine AW.c2 ?_ ?_
      · intro h20
        refine AW.rS ?_
        refine AW.rt ?_
        rw [(free_full h7 (by omega)).1, (free_full h7 (by omega)).2]
      · intro h20
        refine AW.skip ?_
        refine AW.rS ?_
        refine AW.rt ?_
        rw [(free_ok h7 (by omega)).1, (free_ok h7 (by omega)).2, hln]
    · intro h16
      have hln : lastN d.items = 1 := by rw [lastN, if_pos (by omega)]
      refine AW.skip ?_
      refine AW.seq ?_
      refine AW.rS ?_
      refine AW.c2 ?_ ?_
      · intro h31
        simp at h31
      · intro h31
        refine AW.skip ?_
        refine AW.rS ?_
        refine AW.rt ?_
        rw [(free_ok h7 (by omega)).1, (free_ok h7 (by omega)).2, hln]
theorem c_docs_Add (gl : List (Nat × AV)) (d : Dc) (o : Pob) (h : d.bulk + o.bulk ≤ 16777000 := by first | omega | exact u8_le _ | assumption | (simp; done) | (simp; omega)) : FnP Tryz.prog (gl) 15 [.agg d.cells, .agg o.cells] fun r => r = .ret (.tup [.agg (addO d o).cells, .int .i64 (addN d o), .int .i64 (addE d o)]) := by
  refine FnP.intro Tryz.func15 rfl rfl (by simp [Tryz.ntmps15]) ?_
  simp only [argEnv, Tryz.ntmps15, Tryz.results15]
  refine AW.rS ?_
  refine AW.rSC ?_
  refine awOps.cons (awGuard.c1 (c_docs_Free _ d (by omega)) ?_)
  refine awOps.rn ?_
  refine AW.seq ?_
  refine AW.rS ?_
  refine AW.c2 ?_ ?_
  · intro h7
    refine AW.rS ?_
    refine AW.rt ?_
    rw [(add_free h7).1, (add_free h7).2.1, (add_free h7).2.2]; rfl
  · intro h7
    refine AW.skip ?_
    refine AW.rSC ?_
    refine awOps.cons (awGuard.c1 (c_docs_Put _ d ⟨freeN d, 0, o⟩ (by show d.bulk + o.bulk ≤ _; omega)) ?_)
    refine awOps.rn ?_
    refine AW.seq ?_
    refine AW.rS ?_
    refine AW.c2 ?_ ?_
    · intro h17
      refine AW.rS ?_
      refine AW.rt ?_
      rw [(add_put h7 h17).1, (add_put h7 h17).2.1, (add_put h7 h17).2.2]; rfl
    · intro h17
      refine AW.skip ?_
      refine AW.rS ?_
      refine AW.rt ?_
      rw [(add_ok h7 h17).1, (add_ok h7 h17).2.1, (add_ok h7 h17).2.2]
end Go.Proofs

namespace Go.Proofs
open Go Aw
set_option linter.unusedSimpArgs false
set_option linter.unusedVariables false
set_option maxRecDepth 100000
set_option maxHeartbeats 1000000

theorem c_docs_Diff (gl : List (Nat × AV)) (a b : Dc) (ha : a.bulk ≤ 16777000 := by first | omega | exact u8_le _ | assumption | (simp; done) | (simp; omega)) (hb : b.bulk ≤ 16777000 := by first | omega | exact u8_le _ | assumption | (simp; done) | (simp; omega)) : FnP Tryz.prog (gl) 20 [.agg a.cells, .agg b.cells] fun r => r = .ret (.tup [.sl (itemsAV (diffL a b)), .sl (intsAV (diffG a b))]) := by
  refine FnP.intro Tryz.func20 rfl rfl (by simp [Tryz.ntmps20]) ?_
  simp only [argEnv, Tryz.ntmps20, Tryz.results20]
  have hla := ibulk_len a.items
  have hlb := ibulk_len b.items
  have hda : a.bulk = ibulk a.items + a.trailer.bulk := rfl
  have hdb : b.bulk = ibulk b.items + b.trailer.bulk := rfl
  refine AW.rS ?_
  refine AW.seq ?_
  refine AW.rSC ?_
  refine awOps.cons (awGuard.c1 (c_docs_Check _ a (by omega)) ?_)
  refine awOps.rn ?_
  refine awOps.cons (awGuard.cG (fun hg => c_docs_Check _ b (by omega)) ?_)
  refine awOps.rn ?_
  refine AW.c2 ?_ ?_
  · intro h8
    refine AW.rS ?_
    refine AW.rt ?_
    have hd1 : diffL a b = [] := by unfold diffL; rw [if_pos h8]
    have hd2 : diffG a b = [] := by unfold diffG; rw [if_pos h8]
    rw [hd1, hd2]; rfl
  · intro h8
    have hea : docE a = 0 := h8.1
    have heb : docE b = 0 := h8.2
    have hsa := doc_incr hea
    have hsb := doc_incr heb
    rw [diffL_eq hea heb, diffG_eq hea heb]
    refine AW.skip ?_
    refine AW.rS ?_
    refine AW.rS ?_
    refine AW.seq ?_
    refine AW.rS ?_
    refine AW.block ?_
    refine AW.pre (St.le.nilrow 6 8 (by (simp only [go_sem, seval]; try (simp (disch := omega) only [wrap_i64, wrap_u8, wrap_u64, tdiv_nn, tmod_nn, Int.toNat_natCast_add_one, toNat_sub1, Int.toNat_sub, Int.toNat_natCast, intsAV_getD, strsAV_getD, objsAV_getD, itemsAV_getD, intsAV_out, strsAV_out, objsAV_out, itemsAV_out, fillO_length, fillO_set]; try (simp only [go_sem, seval]; try (simp (disch := omega) only [wrap_i64, wrap_u8, wrap_u64, tdiv_nn, tmod_nn, Int.toNat_natCast_add_one, toNat_sub1, Int.toNat_sub, Int.toNat_natCast, intsAV_getD, strsAV_getD, objsAV_getD, itemsAV_getD, intsAV_out, strsAV_out, objsAV_out, itemsAV_out, fillO_length, fillO_set]; try simp only [go_sem, seval])))))) ?_
    refine wk ?_
    refine AW.pre (St.le.nilrow 7 1 (by (simp only [go_sem, seval]; try (simp (disch := omega) only [wrap_i64, wrap_u8, wrap_u64, tdiv_nn, tmod_nn, Int.toNat_natCast_add_one, toNat_sub1, Int.toNat_sub, Int.toNat_natCast, intsAV_getD, strsAV_getD, objsAV_getD, itemsAV_getD, intsAV_out, strsAV_out, objsAV_out, itemsAV_out, fillO_length, fillO_set]; try (simp only [go_sem, seval]; try (simp (disch := omega) only [wrap_i64, wrap_u8, wrap_u64, tdiv_nn, tmod_nn, Int.toNat_natCast_add_one, toNat_sub1, Int.toNat_sub, Int.toNat_natCast, intsAV_getD, strsAV_getD, objsAV_getD, itemsAV_getD, intsAV_out, strsAV_out, objsAV_out, itemsAV_out, fillO_length, fillO_set]; try simp only [go_sem, seval])))))) ?_
    refine wk ?_
    refine AW.lk (S := { i : Nat // i ≤ b.items.length }) [2, 3, 7, 25, 26] (fun s_ => [(6, .row 2 0 ((b.items.take s_.1).filter (diffB a.items)).length), (27, .int .i64 s_.1)]) (fun s_ => [(0, .cells a.cells), (1, .cells b.cells), (2, .row 8 (itemsAV ((b.items.take s_.1).filter (diffB a.items))) true), (3, .row 1 [] true)]) 4 (fun s_ => b.items.length - s_.1) ⟨0, Nat.zero_le _⟩ ?_ ?_
    · refine St.le.vw [0, 1, 2, 3]
    rintro ⟨i, hi⟩
    try dsimp only at hi
    refine AW.rS ?_
    refine AW.seq ?_
    refine AW.c2 ?_ ?_
    · intro h21
      have hgb := ibulk_get (l := b.items) (i := i) (by omega)
      have hfl := filter_take_len b.items i (diffB a.items)
      refine AW.skip ?_
      refine AW.seq ?_
      refine AW.block ?_
      refine AW.rS ?_
      refine AW.rSC ?_
      refine awOps.cons (awGuard.c1 (c_BinSearch_Item _ a.items (b.items.getD i Itm.zero).num (by omega) hsa) ?_)
      refine awOps.rn ?_
      by_cases hs29 : ithere a.items (b.items.getD i Itm.zero).num = true
      · skip
        have hlt := ithere_lt hs29
        have hga := ibulk_get (l := a.items) (i := iplace a.items (b.items.getD i Itm.zero).num) hlt
        rw [hs29]
        refine AW.fS [0, 1, 2, 3, 4, 5, 6, 7, 8] [(9, 2), (10, 2), (11, 2)] ?_
        refine awFun.rn ?_
        rw [Aw.awFun_nil]
        refine awPlan.rn ?_
        refine awPlan.only rfl ?_
        refine awGuard.cG (fun hg => c_docs_same _ (a.items.getD (iplace a.items (b.items.getD i Itm.zero).num) Itm.zero) (b.items.getD i Itm.zero) (by omega)) ?_
        refine awPlan.rn ?_
        refine AW.c2 ?_ ?_
        · intro h35
          have hdf : diffB a.items (b.items.getD i Itm.zero) = true := by simp only [diffB]; simp_all
          have hft := filter_take_yes (l := b.items) (i := i) (p := diffB a.items) (d := Itm.zero) (by omega) hdf
          have hf2 := congrArg List.length hft
          rw [List.length_append, List.length_singleton] at hf2
          refine AW.rLC ?_
          refine awOps.cons (awGuard.c1 (c_docs_copied _ (b.items.getD i Itm.zero)) ?_)
          refine awOps.rn ?_
          refine AW.rL ?_
          refine ⟨⟨i + 1, by omega⟩, ?_, ?_⟩
          · refine St.le.vx [0, 1, 6, 3] ?_
            rw [hft]; simp only [itemsAV, List.map_append, List.map_cons, List.map_nil, Itm.cells]
          · simp only []; omega
        · intro h35
          have hdf : diffB a.items (b.items.getD i Itm.zero) = false := by simp only [diffB]; simp_all
          have hft := filter_take_no (l := b.items) (i := i) (p := diffB a.items) (d := Itm.zero) (by omega) hdf
          have hf2 := congrArg List.length hft
          refine AW.skip ?_
          refine AW.rL ?_
          refine ⟨⟨i + 1, by omega⟩, ?_, ?_⟩
          · refine St.le.vx [0, 1, 2, 3] ?_
            rw [hft]
          · simp only []; omega
      · skip
        by_cases hs29 : iplace a.items (b.items.getD i Itm.zero).num < a.items.length
        · skip
          have hth : ithere a.items (b.items.getD i Itm.zero).num = false := by simpa using ‹¬ithere a.items (b.items.getD i Itm.zero).num = true›
          rw [hth]
          refine AW.fS [0, 1, 2, 3, 4, 5, 6, 7, 8] [(9, 2), (10, 2), (11, 2)] ?_
          refine awFun.rn ?_
          rw [Aw.awFun_nil]
          refine awPlan.rn ?_
          refine awPlan.only rfl ?_
          refine awGuard.gF (.bool false) ?_ ?_
          · rfl
          refine awPlan.rn ?_
          refine AW.c2 ?_ ?_
          · intro h35
            have hdf : diffB a.items (b.items.getD i Itm.zero) = true := by simp only [diffB]; simp_all
            have hft := filter_take_yes (l := b.items) (i := i) (p := diffB a.items) (d := Itm.zero) (by omega) hdf
            have hf2 := congrArg List.length hft
            rw [List.length_append, List.length_singleton] at hf2
            refine AW.rLC ?_
            refine awOps.cons (awGuard.c1 (c_docs_copied _ (b.items.getD i Itm.zero)) ?_)
            refine awOps.rn ?_
            refine AW.rL ?_
            refine ⟨⟨i + 1, by omega⟩, ?_, ?_⟩
            · refine St.le.vx [0, 1, 6, 3] ?_
              rw [hft]; simp only [itemsAV, List.map_append, List.map_cons, List.map_nil, Itm.cells]
            · simp only []; omega
          · intro h35
            have hdf : diffB a.items (b.items.getD i Itm.zero) = false := by simp only [diffB]; simp_all
            have hft := filter_take_no (l := b.items) (i := i) (p := diffB a.items) (d := Itm.zero) (by omega) hdf
            have hf2 := congrArg List.length hft
            refine AW.skip ?_
            refine AW.rL ?_
            refine ⟨⟨i + 1, by omega⟩, ?_, ?_⟩
            · refine St.le.vx [0, 1, 2, 3] ?_
              rw [hft]
            · simp only []; omega
        · skip
          have hth : ithere a.items (b.items.getD i Itm.zero).num = false := by simpa using ‹¬ithere a.items (b.items.getD i Itm.zero).num = true›
          rw [hth]
          refine AW.fS [0, 1, 2, 3, 4, 5, 6, 7, 8] [(9, 2), (10, 2), (11, 2)] ?_
          refine awFun.rn ?_
          rw [Aw.awFun_nil]
          refine awPlan.rn ?_
          refine awPlan.only rfl ?_
          refine awGuard.gF (.bool false) ?_ ?_
          · rfl
          refine awPlan.rn ?_
          refine AW.c2 ?_ ?_
          · intro h35
            have hdf : diffB a.items (b.items.getD i Itm.zero) = true := by simp only [diffB]; simp_all
            have hft := filter_take_yes (l := b.items) (i := i) (p := diffB a.items) (d := Itm.zero) (by omega) hdf
            have hf2 := congrArg List.length hft
            rw [List.length_append, List.length_singleton] at hf2
            refine AW.rLC ?_
            refine awOps.cons (awGuard.c1 (c_docs_copied _ (b.items.getD i Itm.zero)) ?_)
            refine awOps.rn ?_
            refine AW.rL ?_
            refine ⟨⟨i + 1, by omega⟩, ?_, ?_⟩
            · refine St.le.vx [0, 1, 6, 3] ?_
              rw [hft]; simp only [itemsAV, List.map_append, List.map_cons, List.map_nil, Itm.cells]
            · simp only []; omega
          · intro h35
            have hdf : diffB a.items (b.items.getD i Itm.zero) = false := by simp only [diffB]; simp_all
            have hft := filter_take_no (l := b.items) (i := i) (p := diffB a.items) (d := Itm.zero) (by omega) hdf
            have hf2 := congrArg List.length hft
            refine AW.skip ?_
            refine AW.rL ?_
            refine ⟨⟨i + 1, by omega⟩, ?_, ?_⟩
            · refine St.le.vx [0, 1, 2, 3] ?_
              rw [hft]
            · simp only []; omega
    · intro h21
      refine AW.exit ?_
      obtain rfl : i = b.items.length := by omega
      rw [List.take_length]
      have hfb := List.length_filter_le (diffB a.items) b.items
      refine AW.seq ?_
      refine AW.rS ?_
      refine AW.block ?_
      refine AW.lk (S := { i : Nat // i ≤ a.items.length }) [3, 6, 58, 59] (fun s_ => [(7, .row 3 0 ((a.items.take s_.1).filter (goneB b.items)).length), (60, .int .i64 s_.1)]) (fun s_ => [(0, .cells a.cells), (1, .cells b.cells), (2, .row 8 (itemsAV (b.items.filter (diffB a.items))) true), (3, .row 1 (intsAV (((a.items.take s_.1).filter (goneB b.items)).map Itm.num)) true)]) 4 (fun s_ => a.items.length - s_.1) ⟨0, Nat.zero_le _⟩ ?_ ?_
      · refine St.le.vw [0, 1, 2, 3]
      rintro ⟨j, hj⟩
      try dsimp only at hj
      refine AW.rS ?_
      refine AW.seq ?_
      refine AW.c2 ?_ ?_
      · intro h51
        have hfg := filter_take_len a.items j (goneB b.items)
        refine AW.skip ?_
        refine AW.seq ?_
        refine AW.block ?_
        refine AW.rS ?_
        refine AW.rSC ?_
        refine awOps.cons (awGuard.c1 (c_BinSearch_Item _ b.items (a.items.getD j Itm.zero).num (by omega) hsb) ?_)
        refine awOps.rn ?_
        refine AW.rS ?_
        refine AW.c2 ?_ ?_
        · intro h60
          have hdf : goneB b.items (a.items.getD j Itm.zero) = true := by simp only [goneB]; simp_all
          have hft := filter_take_yes (l := a.items) (i := j) (p := goneB b.items) (d := Itm.zero) (by omega) hdf
          have hf2 := congrArg List.length hft
          rw [List.length_append, List.length_singleton] at hf2
          refine AW.rL ?_
          refine AW.rL ?_
          refine ⟨⟨j + 1, by omega⟩, ?_, ?_⟩
          · refine St.le.vx [0, 1, 2, 6] ?_
            rw [hft]; simp only [intsAV, List.map_append, List.map_cons, List.map_nil]; rw [List.take_of_length_le (by simp)]
          · simp only []; omega
        · intro h60
          have hdf : goneB b.items (a.items.getD j Itm.zero) = false := by simp only [goneB]; simp_all
          have hft := filter_take_no (l := a.items) (i := j) (p := goneB b.items) (d := Itm.zero) (by omega) hdf
          have hf2 := congrArg List.length hft
          refine AW.skip ?_
          refine AW.rL ?_
          refine ⟨⟨j + 1, by omega⟩, ?_, ?_⟩
          · refine St.le.vx [0, 1, 2, 3] ?_
            rw [hft]
          · simp only []; omega
      · intro h51
        refine AW.exit ?_
        obtain rfl : j = a.items.length := by omega
        rw [List.take_length]
        refine AW.rS ?_
        refine AW.rt ?_
        refine ⟨by rw [List.length_map]; exact Nat.le_refl _, ?_⟩
        rw [List.take_of_length_le (by simp [intsAV])]
end Go.Proofs

namespace Aw
open Go
theorem ibulk_take {l : List Itm} {i : Nat} (h : i < l.length) : ibulk (l.take (i + 1)) = ibulk (l.take i) + ((l.getD i Itm.zero).obj.bulk + 1) := sum_take (f := fun i : Itm => i.obj.bulk + 1) (d := Itm.zero) h
theorem ibulk_take_le (l : List Itm) (i : Nat) : ibulk (l.take i) ≤ ibulk l := sum_take_le l i _
theorem takeItm_succ {a b : List Itm} {i : Nat} (h : i < a.length) (hl : a.length = b.length) (he : a.take i = b.take i) (hg : a.getD i Itm.zero = b.getD i Itm.zero) : a.take (i + 1) = b.take (i + 1) := by
  rw [List.take_succ_eq_append_getElem h, List.take_succ_eq_append_getElem (hl ▸ h), he]
  simp only [List.getD, List.getElem?_eq_getElem h, List.getElem?_eq_getElem (hl ▸ h), Option.getD_some] at hg
  rw [hg]
theorem trailerK_yes {o : Pob} {i : Nat} (h : i < trailK.length) (hg : getB o (trailK.getD i []) = true) : trailerK o (i + 1) = trailerK o i ++ [trailK.getD i []] := filter_take_yes h hg
theorem trailerK_no {o : Pob} {i : Nat} (h : i < trailK.length) (hg : getB o (trailK.getD i []) = false) : trailerK o (i + 1) = trailerK o i := filter_take_no h hg
theorem trailerK_len (o : Pob) (i : Nat) : (trailerK o i).length ≤ 3 := filter_take_len trailK i (getB o)
theorem Dc_eq (a b : Dc) : a = b ↔ a.items = b.items ∧ a.trailer = b.trailer := by cases a; cases b; simp
instance dcDec : DecidableEq Dc := fun a b => decidable_of_iff (a.items = b.items ∧ a.trailer = b.trailer) (Dc_eq a b).symm
end Aw

namespace Go.Proofs
open Go Aw
set_option linter.unusedSimpArgs false
set_option linter.unusedVariables false
set_option maxRecDepth 100000
set_option maxHeartbeats 1000000

theorem c_docs_Apply (gl : List (Nat × AV)) (d : Dc) (l : List Itm) (ns : List Int) (h : d.bulk + ibulk l ≤ 16777000) (hns : ns.length ≤ 16777000) : FnP Tryz.prog (gl) 17 [.agg d.cells, .sl (itemsAV l), .sl (intsAV ns)] fun r => r = .ret (.tup [.agg (applyD d l ns).cells, .int .i64 (applyE d l ns)]) := by
  refine FnP.intro Tryz.func17 rfl rfl (by simp [Tryz.ntmps17]) ?_
  simp only [argEnv, Tryz.ntmps17, Tryz.results17]
  have hlen := ibulk_len d.items
  have hll := ibulk_len l
  have hdb : d.bulk = ibulk d.items + d.trailer.bulk := rfl
  refine AW.rS ?_
  refine AW.seq ?_
  refine AW.rSC ?_
  refine awOps.cons (awGuard.c1 (c_docs_Check _ d (by omega)) ?_)
  refine awOps.rn ?_
  refine AW.rS ?_
  refine AW.c2 ?_ ?_
  · intro h7
    refine AW.rS ?_
    refine AW.rt ?_
    rw [(apply_doc h7).1, (apply_doc h7).2]; rfl
  · intro h7
    refine AW.skip ?_
    have hs0 := doc_incr h7
    refine AW.rSC ?_
    refine awOps.cons (awGuard.cH [] (h_docs_fresh _ d (by omega)) ?_)
    refine awOps.rn ?_
    refine AW.seq ?_
    refine AW.rS ?_
    refine AW.block ?_
    refine AW.lk (S := { p : Nat × List Itm // p.1 ≤ ns.length ∧ incrN p.2 ∧ ibulk p.2 ≤ ibulk d.items ∧ applyT d.items ns = applyT p.2 (ns.drop p.1) }) [1, 3, 6, 24, 25] (fun s_ => [(26, .int .i64 s_.1.1)]) (fun s_ => [(0, .cells [.row 2 0 s_.1.2.length, .int .i64 d.trailer.kind, .int .i64 d.trailer.num, .int .i64 d.trailer.gen, .str d.trailer.str, .sl (strsAV d.trailer.keys), .sl (objsAV d.trailer.kids)]), (1, .cells [.raw (.slice none 0 0), .int .i64 0, .int .i64 0, .int .i64 0, .str [], .raw (.slice none 0 0), .raw (.slice none 0 0)]), (2, .row 8 (itemsAV s_.1.2) true)]) 3 (fun s_ => ns.length - s_.1.1) ⟨(0, d.items), Nat.zero_le _, hs0, Nat.le_refl _, rfl⟩ ?_ ?_
    · refine St.le.vw [0, 1, 3]
    rintro ⟨⟨i, x⟩, hi, hx, hxb, hxs⟩
    try dsimp only at hi
    try dsimp only at hx
    try dsimp only at hxb
    try dsimp only at hxs
    refine AW.rS ?_
    refine AW.seq ?_
    refine AW.c2 ?_ ?_
    · intro h21
      have hlx := ibulk_len x
      have htb := takeI_bulk x (ns.getD i 0)
      refine AW.skip ?_
      refine AW.seq ?_
      refine AW.block ?_
      refine AW.rS ?_
      refine AW.rSC ?_
      refine awOps.cons (awGuard.cH [2] (h_docs_take _ x (ns.getD i 0) (by omega) hx) ?_)
      refine awOps.rn ?_
      refine AW.seq ?_
      refine AW.rS ?_
      refine AW.c2 ?_ ?_
      · intro h31
        refine AW.rS ?_
        refine AW.rt ?_
        have hn : applyT d.items ns = none := by rw [hxs, applyT_drop h21, if_neg (by rw [h31]; simp)]
        rw [(apply_none h7 hn).1, (apply_none h7 hn).2]; rfl
      · intro h31
        refine AW.skip ?_
        refine AW.rL ?_
        refine AW.rL ?_
        refine ⟨⟨(i + 1, takeI x (ns.getD i 0)), by dsimp only; omega, takeI_incr hx, by dsimp only; omega, by rw [hxs, applyT_drop h21, if_pos h31]⟩, ?_, ?_⟩
        · refine St.le.vw [0, 1, 2]
        · simp only []; omega
    · intro h21
      refine AW.exit ?_
      have hT : applyT d.items ns = some x := by rw [hxs, List.drop_of_length_le (by omega), applyT]
      refine AW.seq ?_
      refine AW.rS ?_
      refine AW.block ?_
      refine AW.lk (S := { p : Nat × List Itm // p.1 ≤ l.length ∧ incrN p.2 ∧ ibulk p.2 ≤ ibulk d.items + ibulk (l.take p.1) ∧ p.2 = (l.take p.1).foldl layI x ∧ aloneL l = aloneL (l.drop p.1) }) [3, 6, 43, 44] (fun s_ => [(45, .int .i64 s_.1.1)]) (fun s_ => [(0, .cells [.row 2 0 s_.1.2.length, .int .i64 d.trailer.kind, .int .i64 d.trailer.num, .int .i64 d.trailer.gen, .str d.trailer.str, .sl (strsAV d.trailer.keys), .sl (objsAV d.trailer.kids)]), (1, .cells [.raw (.slice none 0 0), .int .i64 0, .int .i64 0, .int .i64 0, .str [], .raw (.slice none 0 0), .raw (.slice none 0 0)]), (2, .row 8 (itemsAV s_.1.2) true)]) 3 (fun s_ => l.length - s_.1.1) ⟨(0, x), Nat.zero_le _, hx, by dsimp only; omega, rfl, rfl⟩ ?_ ?_
      · refine St.le.vw [0, 1, 2]
      rintro ⟨⟨k, y⟩, hk, hy, hyb, hyf, hya⟩
      try dsimp only at hk
      try dsimp only at hy
      try dsimp only at hyb
      try dsimp only at hyf
      try dsimp only at hya
      refine AW.rS ?_
      refine AW.seq ?_
      refine AW.c2 ?_ ?_
      · intro h46
        have hgb := ibulk_get (l := l) (i := k) (by omega)
        have hly := ibulk_len y
        have hit := ibulk_take (l := l) (i := k) (by omega)
        have hil := ibulk_take_le l (k + 1)
        have hlb := layI_bulk y (l.getD k Itm.zero)
        refine AW.skip ?_
        refine AW.seq ?_
        refine AW.block ?_
        refine AW.rS ?_
        refine AW.seq ?_
        refine AW.rSC ?_
        refine awOps.cons (awGuard.c1 (c_docs_alone _ (l.getD k Itm.zero) (by omega)) ?_)
        refine awOps.rn ?_
        refine AW.rS ?_
        refine AW.c2 ?_ ?_
        · intro h56
          refine AW.rS ?_
          refine AW.rt ?_
          have hn : aloneL l = aloneE (l.getD k Itm.zero) := by rw [hya, aloneL_drop h46, if_pos h56]
          have ha := apply_alone h7 hT (by rw [hn]; exact h56)
          rw [ha.1, ha.2, hn]; rfl
        · intro h56
          refine AW.skip ?_
          refine AW.rLC ?_
          refine awOps.cons (awGuard.cH [2] (h_docs_lay _ y (l.getD k Itm.zero) (by omega) (by omega) hy) ?_)
          refine awOps.rn ?_
          refine AW.rL ?_
          refine ⟨⟨(k + 1, layI y (l.getD k Itm.zero)), by dsimp only; omega, layI_incr hy, by dsimp only; omega, by rw [foldl_take (d := Itm.zero) h46, ← hyf], by rw [hya, aloneL_drop h46, if_neg (by simpa using h56)]⟩, ?_, ?_⟩
          · refine St.le.vw [0, 1, 4]
          · simp only []; omega
      · intro h46
        refine AW.exit ?_
        have hk' : k = l.length := by omega
        subst hk'
        have hil := ibulk_take_le l l.length
        have hly := ibulk_len y
        rw [List.take_length] at hyf
        rw [List.drop_length, aloneL] at hya
        have ha := apply_ok h7 hT hya
        rw [← hyf] at ha
        refine AW.rSC ?_
        refine awOps.cons (awGuard.c1 (c_docs_told _ ⟨y, d.trailer⟩ (by simp only [Dc.bulk]; omega)) ?_)
        refine awOps.rn ?_
        refine AW.rt ?_
        rw [ha.1, ha.2]
theorem c_docs_Trailer (gl : List (Nat × AV)) (o : Pob) (h : o.bulk ≤ 16777000 := by first | omega | exact u8_le _ | assumption | (simp; done) | (simp; omega)) : FnP Tryz.prog (gl) 35 [.agg o.cells] fun r => r = .ret (.agg (trailerO o).cells) := by
  refine FnP.intro Tryz.func35 rfl rfl (by simp [Tryz.ntmps35]) ?_
  simp only [argEnv, Tryz.ntmps35, Tryz.results35]
  refine AW.rS ?_
  refine AW.rS ?_
  refine AW.seq ?_
  refine AW.rSC ?_
  refine awOps.cons (awGuard.cG (fun hg => c_value_Check _ o (by omega)) ?_)
  refine awOps.rn ?_
  refine AW.c2 ?_ ?_
  · intro h7
    refine AW.rS ?_
    refine AW.rt ?_
    have hb : trailerB o = false := by simp only [trailerB, keyedB, Bool.and_eq_false_iff, Bool.or_eq_false_iff, decide_eq_false_iff_not]; omega
    rw [trailerO, if_neg (by rw [hb]; simp)]; rfl
  · intro h7
    have hb : trailerB o = true := by simp only [trailerB, keyedB, Bool.and_eq_true, Bool.or_eq_true, decide_eq_true_eq]; omega
    refine AW.skip ?_
    refine AW.seq ?_
    refine AW.rSC ?_
    refine awOps.cons (awGuard.c1 (c_docs_known ..) ?_)
    refine awOps.rn ?_
    refine AW.block ?_
    refine AW.pre (St.le.nilcell 2 4 1 (by (simp only [go_sem, seval]; try (simp (disch := omega) only [wrap_i64, wrap_u8, wrap_u64, tdiv_nn, tmod_nn, Int.toNat_natCast_add_one, toNat_sub1, Int.toNat_sub, Int.toNat_natCast, intsAV_getD, strsAV_getD, objsAV_getD, itemsAV_getD, intsAV_out, strsAV_out, objsAV_out, itemsAV_out, fillO_length, fillO_set]; try (simp only [go_sem, seval]; try (simp (disch := omega) only [wrap_i64, wrap_u8, wrap_u64, tdiv_nn, tmod_nn, Int.toNat_natCast_add_one, toNat_sub1, Int.toNat_sub, Int.toNat_natCast, intsAV_getD, strsAV_getD, objsAV_getD, itemsAV_getD, intsAV_out, strsAV_out, objsAV_out, itemsAV_out, fillO_length, fillO_set]; try simp only [go_sem, seval])))); exact rfl) (by exact rfl)) ?_
    refine wk ?_
    refine AW.pre (St.le.nilcell 2 5 6 (by (simp only [go_sem, seval]; try (simp (disch := omega) only [wrap_i64, wrap_u8, wrap_u64, tdiv_nn, tmod_nn, Int.toNat_natCast_add_one, toNat_sub1, Int.toNat_sub, Int.toNat_natCast, intsAV_getD, strsAV_getD, objsAV_getD, itemsAV_getD, intsAV_out, strsAV_out, objsAV_out, itemsAV_out, fillO_length, fillO_set]; try (simp only [go_sem, seval]; try (simp (disch := omega) only [wrap_i64, wrap_u8, wrap_u64, tdiv_nn, tmod_nn, Int.toNat_natCast_add_one, toNat_sub1, Int.toNat_sub, Int.toNat_natCast, intsAV_getD, strsAV_getD, objsAV_getD, itemsAV_getD, intsAV_out, strsAV_out, objsAV_out, itemsAV_out, fillO_length, fillO_set]; try simp only [go_sem, seval])))); exact rfl) (by exact rfl)) ?_
    refine wk ?_
    refine AW.lk (S := { i : Nat // i ≤ trailK.length }) [1, 2, 3, 23, 24] (fun s_ => [(25, .int .i64 s_.1)]) (fun s_ => [(0, .cells o.cells), (1, .cells [.int .i64 0, .int .i64 0, .int .i64 0, .str [], .raw (.slice none 0 0), .raw (.slice none 0 0)]), (2, .cells [.int .i64 7, .int .i64 0, .int .i64 0, .str [], .row 3 0 (trailerK o s_.1).length, .row 4 0 (trailerK o s_.1).length]), (3, .row 1 (strsAV (trailerK o s_.1)) true), (4, .row 6 (objsAV ((trailerK o s_.1).map (getO o))) true)]) 5 (fun s_ => trailK.length - s_.1) ⟨0, Nat.zero_le _⟩ ?_ ?_
    · refine St.le.vw [0, 1, 2, 3, 4]
    rintro ⟨i, hi⟩
    try dsimp only at hi
    refine AW.rS ?_
    refine AW.seq ?_
    refine AW.c2 ?_ ?_
    · intro h20
      have htl := trailerK_len o i
      have h3 : trailK.length = 3 := rfl
      refine AW.skip ?_
      refine AW.seq ?_
      refine AW.block ?_
      refine AW.rS ?_
      refine AW.rSC ?_
      refine awOps.cons (awGuard.c1 (c_value_Get _ o (trailK.getD i [])) ?_)
      refine awOps.rn ?_
      refine AW.rS ?_
      refine AW.c2 ?_ ?_
      · intro h29
        have hty := trailerK_yes h20 h29
        refine AW.rS ?_
        refine AW.rL ?_
        refine AW.rL ?_
        refine ⟨⟨i + 1, by omega⟩, ?_, ?_⟩
        · refine St.le.vx [0, 1, 2, 7, 9] ?_
          rw [hty]; refine ⟨by rw [List.length_append]; rfl, by simp [strsAV], ?_⟩; rw [List.take_of_length_le (by rw [objsAV_length, List.length_map]; exact Nat.le_refl _), List.map_append, ← objsAV_append, List.map_cons, List.map_nil, ← objsAV_one, Pob.cells_eq]
        · simp only []; omega
      · intro h29
        have hty := trailerK_no h20 h29
        refine AW.skip ?_
        refine AW.rL ?_
        refine ⟨⟨i + 1, by omega⟩, ?_, ?_⟩
        · refine St.le.vx [0, 1, 2, 3, 4] ?_
          rw [hty]; exact ⟨rfl, rfl, rfl⟩
        · simp only []; omega
    · intro h20
      refine AW.exit ?_
      refine AW.rS ?_
      refine AW.rt ?_
      have h3 : trailK.length = 3 := rfl
      obtain rfl : i = 3 := by omega
      rw [trailerO, if_pos hb]
      refine ⟨by rw [List.length_map]; exact Nat.le_refl _, ?_⟩
      rw [List.take_of_length_le (by rw [objsAV_length, List.length_map]; exact Nat.le_refl _)]
      rfl
end Go.Proofs

namespace Aw
open Go
def leastD : Dc := ⟨[⟨2, 0, .mk 7 0 0 [] [[65]] [.mk 8 5 1 [] [] []]⟩, ⟨5, 1, .mk 2 7 0 [] [] []⟩], .mk 7 0 0 [] [[82, 111, 111, 116]] [.mk 8 2 0 [] [] []]⟩
def lvI3 : Itm := ⟨3, 0, .mk 1 0 0 [] [] []⟩
def lvI2 : Itm := ⟨2, 0, .mk 1 0 0 [] [] []⟩
def lvI9 : Itm := ⟨9, 0, .mk 8 2 0 [] [] []⟩
def lvX3 : Itm := ⟨3, 0, .mk 9 0 0 [] [[84, 121, 112, 101]] [.mk 5 0 0 [88, 82, 101, 102] [] []]⟩
def lvN : Pob := .mk 5 0 0 [120] [] []
def lvA : Dc := putO leastD lvI3
def lvC : Dc := addO leastD lvN
def lvT : Pob := .mk 7 0 0 [] [[82, 111, 111, 116], [83, 105, 122, 101]] [.mk 2 1 0 [] [] [], .mk 2 1 0 [] [] []]
end Aw
namespace Aw
open Go
theorem pathL_bulk {d : Dc} (h : d.bulk ≤ 16777216) : ∀ (ks : List (List UInt8)) (o : Pob), o.bulk ≤ 16777216 → (pathL d o ks).bulk ≤ 16777216
  | [], o, ho => by rw [pathL]; exact ho
  | k :: r, o, ho => by
    rw [pathL]
    split
    · simp [Pob.null, Pob.bulk, bulks]
    · have := get_bulk o k
      exact pathL_bulk h r _ (follow_bulk h (by omega))
theorem pathO_bulk {d : Dc} {o : Pob} (h : d.bulk ≤ 16777216) (ho : o.bulk ≤ 16777216) (ks : List (List UInt8)) : (pathO d o ks).bulk ≤ 16777216 := pathL_bulk h ks _ (follow_bulk h ho)
theorem strsAV_app (a b : List (List UInt8)) : strsAV (a ++ b) = strsAV a ++ strsAV b := by simp [strsAV]
end Aw
