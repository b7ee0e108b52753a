/- A part of the proof of a law of the seat: no condition of its own. -/
import Derived.Test.YtncdpaekhhcjoaaPart11
namespace Go.Proofs
open Go Aw
set_option linter.unusedSimpArgs false
set_option linter.unusedVariables false
set_option maxRecDepth 100000
set_option maxHeartbeats 1000000

theorem c_docs_Apply (gl : List (Nat × AV)) (d : Dc) (l : List Itm) (ns : List Int) (h : d.bulk + ibulk l ≤ 16777000) (hns : ns.length ≤ 16777000) : FnP Try.prog (gl) 16 [.agg d.cells, .sl (itemsAV l), .sl (intsAV ns)] fun r => r = .ret (.tup [.agg (applyD d l ns).cells, .int .i64 (applyE d l ns)]) := by
  refine FnP.intro Try.func16 rfl rfl (by simp [Try.ntmps16]) ?_
  simp only [argEnv, Try.ntmps16, Try.results16]
  have hlen := ibulk_len d.items
  have hll := ibulk_len l
  have hdb : d.bulk = ibulk d.items + d.trailer.bulk := rfl
  refine AW.rS ?_
  refine AW.seq ?_
  refine AW.rSC ?_
  refine awOps.cons (awGuard.c1 (c_docs_Check _ d (by omega)) ?_)
  refine awOps.rn ?_
  refine AW.rS ?_
  refine AW.c2 ?_ ?_
  · intro h7
    refine AW.rS ?_
    refine AW.rt ?_
    rw [(apply_doc h7).1, (apply_doc h7).2]; rfl
  · intro h7
    refine AW.skip ?_
    have hs0 := doc_incr h7
    refine AW.rSC ?_
    refine awOps.cons (awGuard.cH [] (h_docs_fresh _ d (by omega)) ?_)
    refine awOps.rn ?_
    refine AW.seq ?_
    refine AW.rS ?_
    refine AW.block ?_
    refine AW.lk (S := { p : Nat × List Itm // p.1 ≤ ns.length ∧ incrN p.2 ∧ ibulk p.2 ≤ ibulk d.items ∧ applyT d.items ns = applyT p.2 (ns.drop p.1) }) [1, 3, 6, 24, 25] (fun s_ => [(26, .int .i64 s_.1.1)]) (fun s_ => [(0, .cells [.row 2 0 s_.1.2.length, .int .i64 d.trailer.kind, .int .i64 d.trailer.num, .int .i64 d.trailer.gen, .str d.trailer.str, .sl (strsAV d.trailer.keys), .sl (objsAV d.trailer.kids)]), (1, .cells [.raw (.slice none 0 0), .int .i64 0, .int .i64 0, .int .i64 0, .str [], .raw (.slice none 0 0), .raw (.slice none 0 0)]), (2, .row 8 (itemsAV s_.1.2) true)]) 3 (fun s_ => ns.length - s_.1.1) ⟨(0, d.items), Nat.zero_le _, hs0, Nat.le_refl _, rfl⟩ ?_ ?_
    · refine St.le.vw [0, 1, 3]
    rintro ⟨⟨i, x⟩, hi, hx, hxb, hxs⟩
    try dsimp only at hi
    try dsimp only at hx
    try dsimp only at hxb
    try dsimp only at hxs
    refine AW.rS ?_
    refine AW.seq ?_
    refine AW.c2 ?_ ?_
    · intro h21
      have hlx := ibulk_len x
      have htb := takeI_bulk x (ns.getD i 0)
      refine AW.skip ?_
      refine AW.seq ?_
      refine AW.block ?_
      refine AW.rS ?_
      refine AW.rSC ?_
      refine awOps.cons (awGuard.cH [2] (h_docs_take _ x (ns.getD i 0) (by omega) hx) ?_)
      refine awOps.rn ?_
      refine AW.seq ?_
      refine AW.rS ?_
      refine AW.c2 ?_ ?_
      · intro h31
        refine AW.rS ?_
        refine AW.rt ?_
        have hn : applyT d.items ns = none := by rw [hxs, applyT_drop h21, if_neg (by rw [h31]; simp)]
        rw [(apply_none h7 hn).1, (apply_none h7 hn).2]; rfl
      · intro h31
        refine AW.skip ?_
        refine AW.rL ?_
        refine AW.rL ?_
        refine ⟨⟨(i + 1, takeI x (ns.getD i 0)), by dsimp only; omega, takeI_incr hx, by dsimp only; omega, by rw [hxs, applyT_drop h21, if_pos h31]⟩, ?_, ?_⟩
        · refine St.le.vw [0, 1, 2]
        · simp only []; omega
    · intro h21
      refine AW.exit ?_
      have hT : applyT d.items ns = some x := by rw [hxs, List.drop_of_length_le (by omega), applyT]
      refine AW.seq ?_
      refine AW.rS ?_
      refine AW.block ?_
      refine AW.lk (S := { p : Nat × List Itm // p.1 ≤ l.length ∧ incrN p.2 ∧ ibulk p.2 ≤ ibulk d.items + ibulk (l.take p.1) ∧ p.2 = (l.take p.1).foldl layI x ∧ aloneL l = aloneL (l.drop p.1) }) [3, 6, 43, 44] (fun s_ => [(45, .int .i64 s_.1.1)]) (fun s_ => [(0, .cells [.row 2 0 s_.1.2.length, .int .i64 d.trailer.kind, .int .i64 d.trailer.num, .int .i64 d.trailer.gen, .str d.trailer.str, .sl (strsAV d.trailer.keys), .sl (objsAV d.trailer.kids)]), (1, .cells [.raw (.slice none 0 0), .int .i64 0, .int .i64 0, .int .i64 0, .str [], .raw (.slice none 0 0), .raw (.slice none 0 0)]), (2, .row 8 (itemsAV s_.1.2) true)]) 3 (fun s_ => l.length - s_.1.1) ⟨(0, x), Nat.zero_le _, hx, by dsimp only; omega, rfl, rfl⟩ ?_ ?_
      · refine St.le.vw [0, 1, 2]
      rintro ⟨⟨k, y⟩, hk, hy, hyb, hyf, hya⟩
      try dsimp only at hk
      try dsimp only at hy
      try dsimp only at hyb
      try dsimp only at hyf
      try dsimp only at hya
      refine AW.rS ?_
      refine AW.seq ?_
      refine AW.c2 ?_ ?_
      · intro h46
        have hgb := ibulk_get (l := l) (i := k) (by omega)
        have hly := ibulk_len y
        have hit := ibulk_take (l := l) (i := k) (by omega)
        have hil := ibulk_take_le l (k + 1)
        have hlb := layI_bulk y (l.getD k Itm.zero)
        refine AW.skip ?_
        refine AW.seq ?_
        refine AW.block ?_
        refine AW.rS ?_
        refine AW.seq ?_
        refine AW.rSC ?_
        refine awOps.cons (awGuard.c1 (c_docs_alone _ (l.getD k Itm.zero) (by omega)) ?_)
        refine awOps.rn ?_
        refine AW.rS ?_
        refine AW.c2 ?_ ?_
        · intro h56
          refine AW.rS ?_
          refine AW.rt ?_
          have hn : aloneL l = aloneE (l.getD k Itm.zero) := by rw [hya, aloneL_drop h46, if_pos h56]
          have ha := apply_alone h7 hT (by rw [hn]; exact h56)
          rw [ha.1, ha.2, hn]; rfl
        · intro h56
          refine AW.skip ?_
          refine AW.rLC ?_
          refine awOps.cons (awGuard.cH [2] (h_docs_lay _ y (l.getD k Itm.zero) (by omega) (by omega) hy) ?_)
          refine awOps.rn ?_
          refine AW.rL ?_
          refine ⟨⟨(k + 1, layI y (l.getD k Itm.zero)), by dsimp only; omega, layI_incr hy, by dsimp only; omega, by rw [foldl_take (d := Itm.zero) h46, ← hyf], by rw [hya, aloneL_drop h46, if_neg (by simpa using h56)]⟩, ?_, ?_⟩
          · refine St.le.vw [0, 1, 4]
          · simp only []; omega
      · intro h46
        refine AW.exit ?_
        have hk' : k = l.length := by omega
        subst hk'
        have hil := ibulk_take_le l l.length
        have hly := ibulk_len y
        rw [List.take_length] at hyf
        rw [List.drop_length, aloneL] at hya
        have ha := apply_ok h7 hT hya
        rw [← hyf] at ha
        refine AW.rSC ?_
        refine awOps.cons (awGuard.c1 (c_docs_told _ ⟨y, d.trailer⟩ (by simp only [Dc.bulk]; omega)) ?_)
        refine awOps.rn ?_
        refine AW.rt ?_
        rw [ha.1, ha.2]
theorem c_docs_Trailer (gl : List (Nat × AV)) (o : Pob) (h : o.bulk ≤ 16777000 := by first | omega | exact u8_le _ | assumption | (simp; done) | (simp; omega)) : FnP Try.prog (gl) 50 [.agg o.cells] fun r => r = .ret (.agg (trailerO o).cells) := by
  refine FnP.intro Try.func50 rfl rfl (by simp [Try.ntmps50]) ?_
  simp only [argEnv, Try.ntmps50, Try.results50]
  refine AW.rS ?_
  refine AW.rS ?_
  refine AW.seq ?_
  refine AW.rSC ?_
  refine awOps.cons (awGuard.cG (fun hg => c_value_Check _ o (by omega)) ?_)
  refine awOps.rn ?_
  refine AW.c2 ?_ ?_
  · intro h7
    refine AW.rS ?_
    refine AW.rt ?_
    have hb : trailerB o = false := by simp only [trailerB, keyedB, Bool.and_eq_false_iff, Bool.or_eq_false_iff, decide_eq_false_iff_not]; omega
    rw [trailerO, if_neg (by rw [hb]; simp)]; rfl
  · intro h7
    have hb : trailerB o = true := by simp only [trailerB, keyedB, Bool.and_eq_true, Bool.or_eq_true, decide_eq_true_eq]; omega
    refine AW.skip ?_
    refine AW.seq ?_
    refine AW.rSC ?_
    refine awOps.cons (awGuard.c1 (c_docs_known ..) ?_)
    refine awOps.rn ?_
    refine AW.block ?_
    refine AW.pre (St.le.nilcell 2 4 1 (by (simp only [go_sem, seval]; try (simp (disch := omega) only [wrap_i64, wrap_u8, wrap_u64, tdiv_nn, tmod_nn, Int.toNat_natCast_add_one, toNat_sub1, Int.toNat_sub, Int.toNat_natCast, intsAV_getD, strsAV_getD, objsAV_getD, itemsAV_getD, intsAV_out, strsAV_out, objsAV_out, itemsAV_out, fillO_length, fillO_set]; try (simp only [go_sem, seval]; try (simp (disch := omega) only [wrap_i64, wrap_u8, wrap_u64, tdiv_nn, tmod_nn, Int.toNat_natCast_add_one, toNat_sub1, Int.toNat_sub, Int.toNat_natCast, intsAV_getD, strsAV_getD, objsAV_getD, itemsAV_getD, intsAV_out, strsAV_out, objsAV_out, itemsAV_out, fillO_length, fillO_set]; try simp only [go_sem, seval])))); exact rfl) (by exact rfl)) ?_
    refine wk ?_
    refine AW.pre (St.le.nilcell 2 5 6 (by (simp only [go_sem, seval]; try (simp (disch := omega) only [wrap_i64, wrap_u8, wrap_u64, tdiv_nn, tmod_nn, Int.toNat_natCast_add_one, toNat_sub1, Int.toNat_sub, Int.toNat_natCast, intsAV_getD, strsAV_getD, objsAV_getD, itemsAV_getD, intsAV_out, strsAV_out, objsAV_out, itemsAV_out, fillO_length, fillO_set]; try (simp only [go_sem, seval]; try (simp (disch := omega) only [wrap_i64, wrap_u8, wrap_u64, tdiv_nn, tmod_nn, Int.toNat_natCast_add_one, toNat_sub1, Int.toNat_sub, Int.toNat_natCast, intsAV_getD, strsAV_getD, objsAV_getD, itemsAV_getD, intsAV_out, strsAV_out, objsAV_out, itemsAV_out, fillO_length, fillO_set]; try simp only [go_sem, seval])))); exact rfl) (by exact rfl)) ?_
    refine wk ?_
    refine AW.lk (S := { i : Nat // i ≤ trailK.length }) [1, 2, 3, 23, 24] (fun s_ => [(25, .int .i64 s_.1)]) (fun s_ => [(0, .cells o.cells), (1, .cells [.int .i64 0, .int .i64 0, .int .i64 0, .str [], .raw (.slice none 0 0), .raw (.slice none 0 0)]), (2, .cells [.int .i64 7, .int .i64 0, .int .i64 0, .str [], .row 3 0 (trailerK o s_.1).length, .row 4 0 (trailerK o s_.1).length]), (3, .row 1 (strsAV (trailerK o s_.1)) true), (4, .row 6 (objsAV ((trailerK o s_.1).map (getO o))) true)]) 5 (fun s_ => trailK.length - s_.1) ⟨0, Nat.zero_le _⟩ ?_ ?_
    · refine St.le.vw [0, 1, 2, 3, 4]
    rintro ⟨i, hi⟩
    try dsimp only at hi
    refine AW.rS ?_
    refine AW.seq ?_
    refine AW.c2 ?_ ?_
    · intro h20
      have htl := trailerK_len o i
      have h3 : trailK.length = 3 := rfl
      refine AW.skip ?_
      refine AW.seq ?_
      refine AW.block ?_
      refine AW.rS ?_
      refine AW.rSC ?_
      refine awOps.cons (awGuard.c1 (c_value_Get _ o (trailK.getD i [])) ?_)
      refine awOps.rn ?_
      refine AW.rS ?_
      refine AW.c2 ?_ ?_
      · intro h29
        have hty := trailerK_yes h20 h29
        refine AW.rS ?_
        refine AW.rL ?_
        refine AW.rL ?_
        refine ⟨⟨i + 1, by omega⟩, ?_, ?_⟩
        · refine St.le.vx [0, 1, 2, 7, 9] ?_
          rw [hty]; refine ⟨by rw [List.length_append]; rfl, by simp [strsAV], ?_⟩; rw [List.take_of_length_le (by rw [objsAV_length, List.length_map]; exact Nat.le_refl _), List.map_append, ← objsAV_append, List.map_cons, List.map_nil, ← objsAV_one, Pob.cells_eq]
        · simp only []; omega
      · intro h29
        have hty := trailerK_no h20 h29
        refine AW.skip ?_
        refine AW.rL ?_
        refine ⟨⟨i + 1, by omega⟩, ?_, ?_⟩
        · refine St.le.vx [0, 1, 2, 3, 4] ?_
          rw [hty]; exact ⟨rfl, rfl, rfl⟩
        · simp only []; omega
    · intro h20
      refine AW.exit ?_
      refine AW.rS ?_
      refine AW.rt ?_
      have h3 : trailK.length = 3 := rfl
      obtain rfl : i = 3 := by omega
      rw [trailerO, if_pos hb]
      refine ⟨by rw [List.length_map]; exact Nat.le_refl _, ?_⟩
      rw [List.take_of_length_le (by rw [objsAV_length, List.length_map]; exact Nat.le_refl _)]
      rfl
end Go.Proofs

namespace Aw
open Go
def leastD : Dc := ⟨[⟨2, 0, .mk 7 0 0 [] [[65]] [.mk 8 5 1 [] [] []]⟩, ⟨5, 1, .mk 2 7 0 [] [] []⟩], .mk 7 0 0 [] [[82, 111, 111, 116]] [.mk 8 2 0 [] [] []]⟩
def lvI3 : Itm := ⟨3, 0, .mk 1 0 0 [] [] []⟩
def lvI2 : Itm := ⟨2, 0, .mk 1 0 0 [] [] []⟩
def lvI9 : Itm := ⟨9, 0, .mk 8 2 0 [] [] []⟩
def lvX3 : Itm := ⟨3, 0, .mk 9 0 0 [] [[84, 121, 112, 101]] [.mk 5 0 0 [88, 82, 101, 102] [] []]⟩
def lvN : Pob := .mk 5 0 0 [120] [] []
def lvA : Dc := putO leastD lvI3
def lvC : Dc := addO leastD lvN
def lvT : Pob := .mk 7 0 0 [] [[82, 111, 111, 116], [83, 105, 122, 101]] [.mk 2 1 0 [] [] [], .mk 2 1 0 [] [] []]
end Aw
namespace Aw
open Go
theorem pathL_bulk {d : Dc} (h : d.bulk ≤ 16777216) : ∀ (ks : List (List UInt8)) (o : Pob), o.bulk ≤ 16777216 → (pathL d o ks).bulk ≤ 16777216
  | [], o, ho => by rw [pathL]; exact ho
  | k :: r, o, ho => by
    rw [pathL]
    split
    · simp [Pob.null, Pob.bulk, bulks]
    · have := get_bulk o k
      exact pathL_bulk h r _ (follow_bulk h (by omega))
theorem pathO_bulk {d : Dc} {o : Pob} (h : d.bulk ≤ 16777216) (ho : o.bulk ≤ 16777216) (ks : List (List UInt8)) : (pathO d o ks).bulk ≤ 16777216 := pathL_bulk h ks _ (follow_bulk h ho)
theorem strsAV_app (a b : List (List UInt8)) : strsAV (a ++ b) = strsAV a ++ strsAV b := by simp [strsAV]
end Aw

namespace Go.Proofs
open Go Aw
set_option linter.unusedSimpArgs false
set_option linter.unusedVariables false
set_option maxRecDepth 100000
set_option maxHeartbeats 1000000

theorem c_EqualFunc_Item (gl : List (Nat × AV)) (a b : List Itm) (ha : ibulk a ≤ 16777216) : FnP Try.prog (gl) 62 [.sl (itemsAV a), .sl (itemsAV b), .clos 55 []] fun r => r = .ret (.bool (decide (a = b))) := by
  refine FnP.intro Try.func62 rfl rfl (by simp [Try.ntmps62]) ?_
  simp only [argEnv, Try.ntmps62, Try.results62]
  have hla := ibulk_len a
  refine AW.rS ?_
  refine AW.seq ?_
  refine AW.rS ?_
  refine AW.c2 ?_ ?_
  · intro h4
    refine AW.rS ?_
    refine AW.rt ?_
    rw [decide_eq_false (fun e => h4 (by rw [e]))]
  · intro h4
    refine AW.skip ?_
    refine AW.seq ?_
    refine AW.rS ?_
    refine AW.block ?_
    refine AW.lk (S := { i : Nat // i ≤ a.length ∧ a.take i = b.take i }) [1, 2, 15, 16] (fun s_ => [(17, .int .i64 s_.1)]) (fun s_ => []) 0 (fun s_ => a.length - s_.1) ⟨0, Nat.zero_le _, rfl⟩ ?_ ?_
    · refine St.le.vw []
    rintro ⟨i, hi, hs⟩
    try dsimp only at hi
    try dsimp only at hs
    refine AW.rS ?_
    refine AW.seq ?_
    refine AW.c2 ?_ ?_
    · intro h15
      have hga := ibulk_get (l := a) (i := i) (by omega)
      refine AW.skip ?_
      refine AW.seq ?_
      refine AW.block ?_
      refine AW.rS ?_
      refine AW.rS ?_
      refine AW.rSC ?_
      refine awOps.cons (awGuard.c1 (c_docs_same _ (a.getD i Itm.zero) (b.getD i Itm.zero) (by omega)) ?_)
      refine awOps.rn ?_
      refine AW.c2 ?_ ?_
      · intro h24
        refine AW.rS ?_
        refine AW.rt ?_
        rw [decide_eq_false (fun e => h24 (by rw [e]))]
      · intro h24
        refine AW.skip ?_
        refine AW.rL ?_
        refine ⟨⟨i + 1, by omega, takeItm_succ h15 (by omega) hs h24⟩, ?_, ?_⟩
        · refine St.le.vw []
        · simp only []; omega
    · intro h15
      refine AW.exit ?_
      refine AW.rS ?_
      refine AW.rt ?_
      rw [List.take_of_length_le (by omega), List.take_of_length_le (by omega)] at hs
      simp [hs]
theorem c_docs_Same (gl : List (Nat × AV)) (a b : Dc) (h : a.bulk ≤ 16777216 := by first | omega | exact u8_le _ | assumption | (simp; done) | (simp; omega)) : FnP Try.prog (gl) 17 [.agg a.cells, .agg b.cells] fun r => r = .ret (.bool (decide (a = b))) := by
  refine FnP.intro Try.func17 rfl rfl (by simp [Try.ntmps17]) ?_
  simp only [argEnv, Try.ntmps17, Try.results17]
  simp only [Dc.bulk] at h
  refine AW.rS ?_
  refine AW.rSC ?_
  refine awOps.cons (awGuard.c1 (c_EqualFunc_Item _ a.items b.items (by omega)) ?_)
  refine awOps.rn ?_
  refine awOps.cons (awGuard.cG (fun hg => c_value_Same _ a.trailer b.trailer (by omega)) ?_)
  refine awOps.rn ?_
  refine AW.rt ?_
  rw [show ∀ x y : Bool, x = y → AE.ret (.bool x) = AE.ret (.bool y) from fun _ _ h => by rw [h]]
  rw [Bool.eq_iff_iff]
  simp only [decide_eq_true_eq, Bool.cond_false_right, Bool.and_eq_true, Dc_eq a b]
theorem c_foliantref05_Texts (gl : List (Nat × AV)) (a b : List (List UInt8)) (ha : a.length ≤ 16777216 := by first | omega | exact u8_le _ | assumption | (simp; done) | (simp; omega)) : FnP Try.prog (gl) 110 [.sl (strsAV a), .sl (strsAV b)] fun r => r = .ret (.bool (decide (a = b))) := by
  refine FnP.intro Try.func110 rfl rfl (by simp [Try.ntmps110]) ?_
  simp only [argEnv, Try.ntmps110, Try.results110]
  refine AW.rS ?_
  refine AW.seq ?_
  refine AW.rS ?_
  refine AW.c2 ?_ ?_
  · intro h4
    refine AW.rS ?_
    refine AW.rt ?_
    rw [decide_eq_false (fun e => h4 (by rw [e]))]
  · intro h4
    refine AW.skip ?_
    refine AW.seq ?_
    refine AW.rS ?_
    refine AW.block ?_
    refine AW.lk (S := { i : Nat // i ≤ a.length ∧ a.take i = b.take i }) [0, 1, 12] (fun s_ => [(13, .int .i64 s_.1)]) (fun s_ => []) 0 (fun s_ => a.length - s_.1) ⟨0, Nat.zero_le _, rfl⟩ ?_ ?_
    · refine St.le.vw []
    rintro ⟨i, hi, hs⟩
    try dsimp only at hi
    try dsimp only at hs
    refine AW.rS ?_
    refine AW.seq ?_
    refine AW.c2 ?_ ?_
    · intro h15
      refine AW.skip ?_
      refine AW.seq ?_
      refine AW.block ?_
      refine AW.rS ?_
      refine AW.dS [(0, 0), (1, 0), (2, 1), (3, 1), (4, 0), (5, 0), (6, 1), (7, 1), (8, 0)] ?_
      refine AW.c2 ?_ ?_
      · intro h21
        refine AW.rS ?_
        refine AW.rt ?_
        rw [decide_eq_false (fun e => h21 (by rw [e]))]
      · intro h21
        refine AW.skip ?_
        refine AW.rL ?_
        refine ⟨⟨i + 1, by omega, takeS_succ h15 (by omega) hs h21⟩, ?_, ?_⟩
        · refine St.le.vw []
        · simp only []; omega
    · intro h15
      refine AW.exit ?_
      refine AW.rS ?_
      refine AW.rt ?_
      rw [List.take_of_length_le (by omega), List.take_of_length_le (by omega)] at hs
      simp [hs]
theorem rlist_step (gl : List (Nat × AV)) (N : Nat) (ih : ∀ x y : Pob, x.bulk < N → FnP Try.prog gl 69 [.agg x.cells, .agg y.cells] fun r => r = .ret (.bool (decide (x = y)))) (a b : List Pob) (ha : a.length ≤ 16777216) (hb : ∀ i, i < a.length → (a.getD i Pob.null).bulk < N) : FnP Try.prog (gl) 111 [.sl (objsAV a), .sl (objsAV b)] fun r => r = .ret (.bool (decide (a = b))) := by
  refine FnP.intro Try.func111 rfl rfl (by simp [Try.ntmps111]) ?_
  simp only [argEnv, Try.ntmps111, Try.results111]
  refine AW.rS ?_
  refine AW.seq ?_
  refine AW.rS ?_
  refine AW.c2 ?_ ?_
  · intro h4
    refine AW.rS ?_
    refine AW.rt ?_
    rw [decide_eq_false (fun e => h4 (by rw [e]))]
  · intro h4
    refine AW.skip ?_
    refine AW.seq ?_
    refine AW.rS ?_
    refine AW.block ?_
    refine AW.lk (S := { i : Nat // i ≤ a.length ∧ a.take i = b.take i }) [0, 1, 12] (fun s_ => [(13, .int .i64 s_.1)]) (fun s_ => []) 0 (fun s_ => a.length - s_.1) ⟨0, Nat.zero_le _, rfl⟩ ?_ ?_
    · refine St.le.vw []
    rintro ⟨i, hi, hs⟩
    try dsimp only at hi
    try dsimp only at hs
    refine AW.rS ?_
    refine AW.seq ?_
    refine AW.c2 ?_ ?_
    · intro h15
      refine AW.skip ?_
      refine AW.seq ?_
      refine AW.block ?_
      refine AW.rS ?_
      refine AW.dSC [(0, 0), (1, 0), (2, 0), (3, 1), (4, 0), (5, 0), (6, 0), (7, 1), (8, 2), (9, 0)] ?_
      refine awPlan.only rfl ?_
      refine awGuard.c1 (ih (a.getD i Pob.null) (b.getD i Pob.null) (hb i (by omega))) ?_
      refine awPlan.rn ?_
      refine AW.c2 ?_ ?_
      · intro h23
        refine AW.rS ?_
        refine AW.rt ?_
        rw [decide_eq_false (fun e => h23 (by rw [e]))]
      · intro h23
        refine AW.skip ?_
        refine AW.rL ?_
        refine ⟨⟨i + 1, by omega, takeO_succ h15 (by omega) hs h23⟩, ?_, ?_⟩
        · refine St.le.vw []
        · simp only []; omega
    · intro h15
      refine AW.exit ?_
      refine AW.rS ?_
      refine AW.rt ?_
      rw [List.take_of_length_le (by omega), List.take_of_length_le (by omega)] at hs
      simp [hs]
theorem rsame_step (gl : List (Nat × AV)) (N : Nat) (hN : N ≤ 16777216) (ih : ∀ x y : Pob, x.bulk < N → FnP Try.prog gl 69 [.agg x.cells, .agg y.cells] fun r => r = .ret (.bool (decide (x = y)))) (a b : Pob) (ha : a.bulk ≤ N) : FnP Try.prog (gl) 69 [.agg a.cells, .agg b.cells] fun r => r = .ret (.bool (decide (a = b))) := by
  refine FnP.intro Try.func69 rfl rfl (by simp [Try.ntmps69]) ?_
  simp only [argEnv, Try.ntmps69, Try.results69]
  have hbulk := Pob.bulk_eq a
  refine AW.rS ?_
  refine AW.rSC ?_
  refine awOps.cons (awGuard.cG (fun hg => c_foliantref05_Texts _ a.keys b.keys (by omega)) ?_)
  refine awOps.rn ?_
  refine awOps.cons (awGuard.cG (fun hg => rlist_step _ N ih a.kids b.kids (by omega) (fun i hi => Nat.lt_of_lt_of_le (Pob.bulk_kid hi) ha)) ?_)
  refine awOps.rn ?_
  refine AW.rt ?_
  rw [show ∀ x y : Bool, x = y → AE.ret (.bool x) = AE.ret (.bool y) from fun _ _ h => by rw [h]]
  rw [Bool.eq_iff_iff]
  simp only [decide_eq_true_eq, Bool.cond_false_right, Bool.and_eq_true, Pob_eq a b, and_assoc]
theorem rsame_all (gl : List (Nat × AV)) (N : Nat) : N ≤ 16777216 → ∀ x y : Pob, x.bulk ≤ N → FnP Try.prog gl 69 [.agg x.cells, .agg y.cells] fun r => r = .ret (.bool (decide (x = y))) := by
  induction N using Nat.strongRecOn with
  | ind N IH => exact fun hN x y hx => rsame_step gl N hN (fun x' y' h => IH x'.bulk h (by omega) x' y' (Nat.le_refl _)) x y hx
theorem c_foliantref05_Same (gl : List (Nat × AV)) (x y : Pob) (h : x.bulk ≤ 16777216 := by first | assumption | omega) : FnP Try.prog gl 69 [.agg x.cells, .agg y.cells] fun r => r = .ret (.bool (decide (x = y))) := rsame_all gl 16777216 (Nat.le_refl _) x y h
theorem c_foliantref19_SameItem (gl : List (Nat × AV)) (a b : Itm) (h : a.obj.bulk ≤ 16777216 := by first | omega | exact u8_le _ | assumption | (simp; done) | (simp; omega)) : FnP Try.prog (gl) 24 [.agg a.cells, .agg b.cells] fun r => r = .ret (.bool (decide (a = b))) := by
  refine FnP.intro Try.func24 rfl rfl (by simp [Try.ntmps24]) ?_
  simp only [argEnv, Try.ntmps24, Try.results24]
  refine AW.rS ?_
  refine AW.rSC ?_
  refine awOps.cons (awGuard.cG (fun hg => c_foliantref05_Same _ a.obj b.obj) ?_)
  refine awOps.rn ?_
  refine AW.rt ?_
  rw [show ∀ x y : Bool, x = y → AE.ret (.bool x) = AE.ret (.bool y) from fun _ _ h => by rw [h]]
  rw [Bool.eq_iff_iff]
  simp only [decide_eq_true_eq, Bool.cond_false_right, Bool.and_eq_true, Itm_eq a b, and_assoc]
theorem size_step (gl : List (Nat × AV)) (N : Nat) (hN : N ≤ 16777216) (ih : ∀ o' : Pob, o'.bulk < N → o'.psize ≤ 4611686018427387904 → FnP Try.prog gl 18 [.agg o'.cells] fun r => r = .ret (.int .i64 o'.psize)) (o : Pob) (ho : o.bulk ≤ N) (hp : o.psize ≤ 4611686018427387904) : FnP Try.prog (gl) 18 [.agg o.cells] fun r => r = .ret (.int .i64 o.psize) := by
  refine FnP.intro Try.func18 rfl rfl (by simp [Try.ntmps18]) ?_
  simp only [argEnv, Try.ntmps18, Try.results18]
  have hb := Pob.bulk_eq o
  have hpe := Pob.psize_eq o
  have hk0 := ksize_nil
  have hp0 := psizes_nil
  refine AW.rS ?_
  refine AW.rS ?_
  refine AW.seq ?_
  refine AW.rS ?_
  refine AW.block ?_
  refine AW.lk (S := { i : Nat // i ≤ o.keys.length }) [1, 14, 15] (fun s_ => [(3, .int .i64 ((1 + o.str.length / 50 + ksize (o.keys.take s_.1) : Nat) : Int)), (16, .int .i64 s_.1)]) (fun s_ => [(0, .cells o.cells)]) 1 (fun s_ => o.keys.length - s_.1) ⟨0, Nat.zero_le _⟩ ?_ ?_
  · refine St.le.vw [0]
  rintro ⟨i, hi⟩
  try dsimp only at hi
  refine AW.rS ?_
  refine AW.seq ?_
  refine AW.c2 ?_ ?_
  · intro h9
    have h1 := ksize_take h9
    have h2 := ksize_take_le o.keys (i + 1)
    refine AW.skip ?_
    refine AW.seq ?_
    refine AW.block ?_
    refine AW.rS ?_
    refine AW.rL ?_
    refine AW.rL ?_
    refine ⟨⟨i + 1, by omega⟩, ?_, ?_⟩
    · refine St.le.vw [0]
    · simp only []; omega
  · intro h9
    refine AW.exit ?_
    obtain rfl : i = o.keys.length := by omega
    rw [List.take_length]
    refine AW.seq ?_
    refine AW.rS ?_
    refine AW.block ?_
    refine AW.lk (S := { i : Nat // i ≤ o.kids.length }) [27, 28] (fun s_ => [(3, .int .i64 ((1 + o.str.length / 50 + ksize o.keys + psizes (o.kids.take s_.1) : Nat) : Int)), (29, .int .i64 s_.1)]) (fun s_ => [(0, .cells o.cells)]) 1 (fun s_ => o.kids.length - s_.1) ⟨0, Nat.zero_le _⟩ ?_ ?_
    · refine St.le.vw [0]
    rintro ⟨j, hj⟩
    try dsimp only at hj
    refine AW.rS ?_
    refine AW.seq ?_
    refine AW.c2 ?_ ?_
    · intro h24
      have h1 := psizes_take h24
      have h2 := psizes_take_le o.kids (j + 1)
      have h3 := psizes_get h24
      refine AW.skip ?_
      refine AW.seq ?_
      refine AW.block ?_
      refine AW.rS ?_
      refine AW.rLC ?_
      refine awOps.cons (awGuard.c1 (ih (o.kids.getD j Pob.null) (Nat.lt_of_lt_of_le (Pob.bulk_kid (by omega)) ho) (by omega)) ?_)
      refine awOps.rn ?_
      refine AW.rL ?_
      refine ⟨⟨j + 1, by omega⟩, ?_, ?_⟩
      · refine St.le.vw [0]
      · simp only []; omega
    · intro h24
      refine AW.exit ?_
      refine AW.rS ?_
      refine AW.rt ?_
      obtain rfl : j = o.kids.length := by omega
      rw [List.take_length, hpe]
theorem size_all (gl : List (Nat × AV)) (N : Nat) : N ≤ 16777216 → ∀ o : Pob, o.bulk ≤ N → o.psize ≤ 4611686018427387904 → FnP Try.prog gl 18 [.agg o.cells] fun r => r = .ret (.int .i64 o.psize) := by
  induction N using Nat.strongRecOn with
  | ind N IH => exact fun hN x hx hp => size_step gl N hN (fun x' h hp' => IH x'.bulk h (by omega) x' (Nat.le_refl _) hp') x hx hp
theorem c_foliantref05_Size (gl : List (Nat × AV)) (o : Pob) (h : o.bulk ≤ 16777216) (hp : o.psize ≤ 4611686018427387904) : FnP Try.prog gl 18 [.agg o.cells] fun r => r = .ret (.int .i64 o.psize) := size_all gl 16777216 (Nat.le_refl _) o h hp
theorem c_foliantref19_Size (gl : List (Nat × AV)) (d : Dc) (h : d.bulk ≤ 16777216) (hp : d.size ≤ 4611686018427387904) : FnP Try.prog (gl) 13 [.agg d.cells] fun r => r = .ret (.int .i64 d.size) := by
  refine FnP.intro Try.func13 rfl rfl (by simp [Try.ntmps13]) ?_
  simp only [argEnv, Try.ntmps13, Try.results13]
  have hlen := ibulk_len d.items
  have hdb : d.bulk = ibulk d.items + d.trailer.bulk := rfl
  have hds : d.size = d.trailer.psize + isize d.items := rfl
  have hk0 := isize_nil
  refine AW.rS ?_
  refine AW.rSC ?_
  refine awOps.cons (awGuard.c1 (c_foliantref05_Size _ d.trailer (by omega) (by omega)) ?_)
  refine awOps.rn ?_
  refine AW.seq ?_
  refine AW.rS ?_
  refine AW.block ?_
  refine AW.lk (S := { i : Nat // i ≤ d.items.length }) [10, 11] (fun s_ => [(3, .int .i64 ((d.trailer.psize + isize (d.items.take s_.1) : Nat) : Int)), (12, .int .i64 s_.1)]) (fun s_ => [(0, .cells d.cells)]) 1 (fun s_ => d.items.length - s_.1) ⟨0, Nat.zero_le _⟩ ?_ ?_
  · refine St.le.vw [0]
  rintro ⟨i, hi⟩
  try dsimp only at hi
  refine AW.rS ?_
  refine AW.seq ?_
  refine AW.c2 ?_ ?_
  · intro h11
    have h1 := isize_take h11
    have h2 := isize_take_le d.items (i + 1)
    have hgb := ibulk_get (l := d.items) (i := i) (by omega)
    refine AW.skip ?_
    refine AW.seq ?_
    refine AW.block ?_
    refine AW.rS ?_
    refine AW.rLC ?_
    refine awOps.cons (awGuard.c1 (c_foliantref05_Size _ (d.items.getD i Itm.zero).obj (by omega) (by omega)) ?_)
    refine awOps.rn ?_
    refine AW.rL ?_
    refine ⟨⟨i + 1, by omega⟩, ?_, ?_⟩
    · refine St.le.vw [0]
    · simp only []; omega
  · intro h11
    refine AW.exit ?_
    refine AW.rS ?_
    refine AW.rt ?_
    obtain rfl : i = d.items.length := by omega
    rw [List.take_length, hds]
theorem c_foliantlaw19_Least (gl : List (Nat × AV))  : FnP Try.prog (gl) 49 [] fun r => r = .ret (.agg leastD.cells) := by
  refine FnP.intro Try.func49 rfl rfl (by simp [Try.ntmps49]) ?_
  simp only [argEnv, Try.ntmps49, Try.results49]
  refine AW.rS ?_
  refine AW.rS ?_
  refine AW.rt ?_
  all_goals first | contradiction | rfl | (simp; done) | (simp; omega)
end Go.Proofs

namespace Aw
open Go
def flatKV (l : List (List UInt8 × Pob)) : List Pob := l.flatMap fun p => [nameO p.1, p.2]
theorem setAdd_mem {α : Type} [DecidableEq α] {s : List α} {k x : α} : x ∈ setAdd s k ↔ x ∈ s ∨ x = k := by
  unfold setAdd
  split
  · rename_i h
    constructor
    · exact .inl
    · rintro (g | rfl)
      · exact g
      · exact h
  · simp
theorem dictL_flat : ∀ (l : List (List UInt8 × Pob)) (met : List (List UInt8)) (o : Pob), (∀ p ∈ l, p.2.kind ≠ 0) → (l.map (·.1)).Nodup → (∀ p ∈ l, p.1 ∉ met) → o.kvOk →
    ∃ x, dictL (flatKV l) met o = some x ∧ x.kvOk ∧ (x.kind = o.kind ∧ x.num = o.num ∧ x.gen = o.gen ∧ x.str = o.str) ∧ ∀ k v, x.has k v ↔ (k, v) ∈ l ∨ ((∀ p ∈ l, p.1 ≠ k) ∧ o.has k v)
  | [], met, o, _, _, _, hs => by
    refine ⟨o, by simp only [flatKV, List.flatMap_nil, dictL], hs, ⟨rfl, rfl, rfl, rfl⟩, fun k v => ?_⟩
    simp
  | (k0, v0) :: l, met, o, h1, h2, h3, hs => by
    have hm : k0 ∉ met := h3 (k0, v0) List.mem_cons_self
    rw [List.map_cons, List.nodup_cons] at h2
    have h21 : k0 ∉ l.map (·.1) := h2.1
    obtain ⟨x, e, hx, f, hh⟩ := dictL_flat l (setAdd met k0) (o.withK k0 v0) (fun p hp => h1 p (List.mem_cons_of_mem _ hp)) h2.2
      (fun p hp hin => by
        rcases setAdd_mem.1 hin with g | g
        · exact h3 p (List.mem_cons_of_mem _ hp) g
        · exact h21 (by rw [← g]; exact List.mem_map_of_mem (f := fun p : List UInt8 × Pob => p.1) hp)) (withK_kvOk hs _ _)
    have hv : v0.kind ≠ 0 := h1 (k0, v0) List.mem_cons_self
    obtain ⟨g1, g2, g3, g4⟩ := withK_frame o k0 v0
    obtain ⟨f1, f2, f3, f4⟩ := f
    refine ⟨x, ?_, hx, ⟨f1.trans g1, f2.trans g2, f3.trans g3, f4.trans g4⟩, fun k v => ?_⟩
    · have : flatKV ((k0, v0) :: l) = nameO k0 :: v0 :: flatKV l := rfl
      rw [this]
      simp only [dictL]
      have hn : (nameO k0).str = k0 := rfl
      rw [hn, if_neg hm, if_pos hv]
      exact e
    · rw [hh, has_withK hs]
      have hkl : ∀ w, (k0, w) ∉ l := fun w hw => h21 (List.mem_map_of_mem (f := (·.1)) hw)
      constructor
      · rintro (g | ⟨g, ⟨rfl, rfl⟩ | ⟨g5, g6⟩⟩)
        · exact .inl (List.mem_cons_of_mem _ g)
        · exact .inl List.mem_cons_self
        · refine .inr ⟨fun p hp => ?_, g6⟩
          rcases List.mem_cons.1 hp with e | hp
          · rw [e]; exact fun e => g5 e.symm
          · exact g p hp
      · rintro (g | ⟨g, g6⟩)
        · rcases List.mem_cons.1 g with g | g
          · injection g with a b
            subst a b
            refine .inr ⟨fun p hp e => h21 ?_, .inl ⟨rfl, rfl⟩⟩
            rw [← e]
            exact List.mem_map_of_mem (f := fun p : List UInt8 × Pob => p.1) hp
          · exact .inl g
        · exact .inr ⟨fun p hp => g p (List.mem_cons_of_mem _ hp), .inr ⟨fun e => g (k0, v0) List.mem_cons_self e.symm, g6⟩⟩
theorem dictArg_flat (l : List (List UInt8 × Pob)) : dictArg (flatKV l) = true := by
  have hl : ∀ l, (flatKV l).length = 2 * l.length := by
    intro l
    induction l with
    | nil => rfl
    | cons p l ih => simp only [flatKV, List.flatMap_cons, List.length_append, List.length_cons, List.length_nil] at ih ⊢; omega
  have hk : ∀ (l : List (List UInt8 × Pob)) (i : Nat), i < (flatKV l).length → i % 2 = 0 → ((flatKV l).getD i Pob.null).kind = 5 := by
    intro l
    induction l with
    | nil => intro i hi; simp [flatKV] at hi
    | cons p l ih =>
      intro i hi h2
      have e : flatKV (p :: l) = nameO p.1 :: p.2 :: flatKV l := rfl
      rw [e] at hi ⊢
      match i, h2, hi with
      | 0, _, _ => rfl
      | 1, h2, _ => omega
      | i + 2, h2, hi =>
        simp only [List.getD_cons_succ]
        exact ih i (by simpa using hi) (by omega)
  simp only [dictArg, Bool.and_eq_true, decide_eq_true_eq]
  exact ⟨by rw [hl]; omega, hk l⟩
def rot (n t j : Nat) : Nat := (j + t) % n
theorem rot_eq {n t j : Nat} (ht : t < n) (hj : j < n) : rot n t j = if j + t < n then j + t else j + t - n := by
  unfold rot
  split
  · rename_i h; exact Nat.mod_eq_of_lt h
  · rw [Nat.mod_eq_sub_mod (by omega), Nat.mod_eq_of_lt (by omega)]
/-- the first 'i' pairs, from the 't'-th on -/
def rotP (o : Pob) (t i : Nat) : List (List UInt8 × Pob) := (List.range i).map fun j => (o.keys.getD (rot o.keys.length t j) [], o.kids.getD (rot o.keys.length t j) Pob.null)
def rotL (o : Pob) (t i : Nat) : List Pob := flatKV (rotP o t i)
theorem rotL_succ (o : Pob) (t i : Nat) : rotL o t (i + 1) = rotL o t i ++ [nameO (o.keys.getD (rot o.keys.length t i) []), o.kids.getD (rot o.keys.length t i) Pob.null] := by
  simp [rotL, rotP, List.range_succ, flatKV]
theorem rotL_zero (o : Pob) (t : Nat) : rotL o t 0 = [] := rfl
theorem rotL_length (o : Pob) (t i : Nat) : (rotL o t i).length = 2 * i := by
  induction i with
  | zero => rfl
  | succ i ih => rw [rotL_succ, List.length_append, ih]; simp; omega
theorem dict_rot {o : Pob} (h : chk o 1 = 0) (hk : o.kind = 7) {t : Nat} (ht : t < o.keys.length ∨ o.keys.length = 0) : dictE (rotL o t o.keys.length) = 0 ∧ dictO (rotL o t o.keys.length) = o := by
  have hk' : keyedB o.kind = true := by simp [keyedB, hk]
  obtain ⟨⟨_, h2, h3, h4, _⟩, hs, h8⟩ := (chk_keyed hk').1 h
  have hmem : ∀ k v, (k, v) ∈ rotP o t o.keys.length ↔ o.has k v := by
    intro k v
    simp only [rotP, List.mem_map, List.mem_range, Prod.mk.injEq]
    constructor
    · rintro ⟨j, hj, e1, e2⟩
      refine ⟨_, ?_, e1, e2⟩
      rw [rot_eq (by omega) hj]
      split <;> omega
    · rintro ⟨i, hi, e1, e2⟩
      by_cases g : t ≤ i
      · refine ⟨i - t, by omega, ?_, ?_⟩ <;> rw [rot_eq (by omega) (by omega), if_pos (by omega), Nat.sub_add_cancel g] <;> assumption
      · refine ⟨i + o.keys.length - t, by omega, ?_, ?_⟩ <;> rw [rot_eq (by omega) (by omega), if_neg (by omega), show i + o.keys.length - t + t - o.keys.length = i from by omega] <;> assumption
  obtain ⟨x, e, hx, ⟨f1, f2, f3, f4⟩, hh⟩ := dictL_flat (rotP o t o.keys.length) [] dict0 (fun p hp => (h8 p.1 p.2 ((hmem _ _).1 hp)).2.2.1)
    (by
      rw [rotP, List.map_map, List.nodup_iff_pairwise_ne, List.pairwise_map]
      refine (List.Pairwise.and_mem.1 List.nodup_range).imp ?_
      rintro a b ⟨ha, hb, hab⟩ e
      rw [List.mem_range] at ha hb
      simp only [Function.comp] at e
      have := incr_inj hs.1 (by rw [rot_eq (by omega) ha]; split <;> omega) (by rw [rot_eq (by omega) hb]; split <;> omega) e
      rw [rot_eq (by omega) ha, rot_eq (by omega) hb] at this
      apply hab
      split at this <;> split at this <;> omega)
    (fun p _ hp => by cases hp) ⟨fun a b _ hb => by simp [dict0, Pob.keys_mk] at hb, rfl⟩
  have hxo : x = o := by
    have hs' : o.str = [] := by
      rcases h4 with g | g
      · omega
      · exact g
    refine kv_ext hx hs (by rw [f1, hk]; rfl) (by rw [f2, h2]; rfl) (by rw [f3, h3]; rfl) (by rw [f4, hs']; rfl) fun k v => ?_
    rw [hh, hmem]
    constructor
    · rintro (g | ⟨_, i, hi, _⟩)
      · exact g
      · simp [dict0, Pob.keys_mk] at hi
    · exact .inl
  subst hxo
  have := dict_some (dictArg_flat _) e
  rw [h] at this
  simpa [rotL] using this
theorem dict_stream {o : Pob} {s : List UInt8} (h : chk o 1 = 0) (hk : o.kind = 7) (hl : s.length ≤ 3000) : streamE o s = 0 ∧ (streamO o s).str = s ∧ (streamO o s).kind = 9 ∧ chk (streamO o s) 1 = 0 ∧
    ∀ i, i < o.keys.length → getB (streamO o s) (o.keys.getD i []) = decide (o.keys.getD i [] ≠ lengthK) ∧ (o.keys.getD i [] ≠ lengthK → getO (streamO o s) (o.keys.getD i []) = o.kids.getD i Pob.null) := by
  have hk' : keyedB o.kind = true := by simp [keyedB, hk]
  obtain ⟨ds, dh⟩ := dropO_has (key := lengthK) h hk'
  obtain ⟨g1, g2, g3, g4⟩ := dropO_frame o lengthK
  have hl2 := dropO_len o lengthK
  obtain ⟨⟨h1, h2, h3, h4, h5, h6, h7⟩, hs, h8⟩ := (chk_keyed hk').1 h
  have hxk : keyedB ((dropO o lengthK).strm s).kind = true := by simp [Pob.strm, Pob.kind_mk, keyedB]
  have hxs : ((dropO o lengthK).strm s).kvOk := ds
  have hxh : ∀ k v, ((dropO o lengthK).strm s).has k v ↔ k ≠ lengthK ∧ o.has k v := dh
  have hc : chk ((dropO o lengthK).strm s) 1 = 0 := by
    rw [chk_keyed hxk]
    refine ⟨⟨by omega, by simp only [Pob.strm, Pob.num_mk]; omega, by simp only [Pob.strm, Pob.gen_mk]; omega, .inl rfl, .inl rfl, by simp only [Pob.strm, Pob.str_mk]; omega, by simp only [Pob.strm, Pob.kids_mk]; omega⟩, hxs, fun k v hv => ?_⟩
    obtain ⟨hne, hv⟩ := (hxh k v).1 hv
    obtain ⟨a, _, c, d⟩ := h8 k v hv
    exact ⟨a, fun hh => hne hh.2, c, d⟩
  obtain ⟨e1, e2⟩ := stream_ok (s := s) hk h
  rw [hc] at e1
  rw [if_pos hc] at e2
  rw [e2]
  refine ⟨e1, rfl, rfl, hc, fun i hi => ?_⟩
  by_cases hne : o.keys.getD i [] = lengthK
  · refine ⟨?_, fun hh => absurd hne hh⟩
    rw [(get_no hxs hxk fun v hv => ((hxh _ _).1 hv).1 hne).1, decide_eq_false (fun h => h hne)]
  · have := (get_has hxs hxk (k := o.keys.getD i []) (v := o.kids.getD i Pob.null)).2 ((hxh _ _).2 ⟨hne, i, hi, rfl, rfl⟩)
    exact ⟨by rw [this.1]; simp only [ne_eq, hne, not_false_eq_true, decide_true], fun _ => this.2⟩
end Aw
