/- A part of the proof of a law of the seat: no condition of its own. -/
import Derived.Test.YtokikpiffafajaaGreatPart7
namespace Go.Proofs
open Go Aw
set_option linter.unusedSimpArgs false
set_option linter.unusedVariables false
set_option maxRecDepth 100000
set_option maxHeartbeats 1000000

theorem c_docs_Put (gl : List (Nat × AV)) (d : Dc) (i : Itm) (h : d.bulk + i.obj.bulk ≤ 16777000 := by first | omega | exact u8_le _ | assumption | (simp; done) | (simp; omega)) : FnP Tryz.prog (gl) 82 [.agg d.cells, .agg i.cells] fun r => r = .ret (.tup [.agg (putO d i).cells, .int .i64 (putE d i)]) := by
  refine FnP.intro Tryz.func82 rfl rfl (by simp [Tryz.ntmps82]) ?_
  simp only [argEnv, Tryz.ntmps82, Tryz.results82]
  have hlen := ibulk_len d.items
  have hlb := layI_bulk d.items i
  have hdb : d.bulk = ibulk d.items + d.trailer.bulk := rfl
  refine AW.rS ?_
  refine AW.seq ?_
  refine AW.rSC ?_
  refine awOps.cons (awGuard.c1 (c_docs_Check _ d (by omega)) ?_)
  refine awOps.rn ?_
  refine AW.rS ?_
  refine AW.c2 ?_ ?_
  · intro h7
    refine AW.rS ?_
    refine AW.rt ?_
    rw [(put_doc h7).1, (put_doc h7).2]; rfl
  · intro h7
    refine AW.skip ?_
    refine AW.seq ?_
    refine AW.rSC ?_
    refine awOps.cons (awGuard.c1 (c_docs_alone _ i (by omega)) ?_)
    refine awOps.rn ?_
    refine AW.rS ?_
    refine AW.c2 ?_ ?_
    · intro h17
      refine AW.rS ?_
      refine AW.rt ?_
      rw [(put_alone h7 h17).1, (put_alone h7 h17).2]; rfl
    · intro h17
      refine AW.skip ?_
      have hs := doc_incr h7
      refine AW.rSC ?_
      refine awOps.cons (awGuard.cH [] (h_docs_fresh _ d (by omega)) ?_)
      refine awOps.rn ?_
      refine AW.rSC ?_
      refine awOps.cons (awGuard.cH [4] (h_docs_lay _ d.items i (by omega) (by omega) hs) ?_)
      refine awOps.rn ?_
      refine AW.rSC ?_
      refine awOps.cons (awGuard.c1 (c_docs_told _ ⟨layI d.items i, d.trailer⟩ (by simp only [Dc.bulk]; omega)) ?_)
      refine awOps.rn ?_
      refine AW.rt ?_
      rw [(put_ok h7 h17).1, (put_ok h7 h17).2]
theorem c_docs_Free (gl : List (Nat × AV)) (d : Dc) (h : d.bulk ≤ 16777000 := by first | omega | exact u8_le _ | assumption | (simp; done) | (simp; omega)) : FnP Tryz.prog (gl) 97 [.agg d.cells] fun r => r = .ret (.tup [.int .i64 (freeN d), .int .i64 (freeE d)]) := by
  refine FnP.intro Tryz.func97 rfl rfl (by simp [Tryz.ntmps97]) ?_
  simp only [argEnv, Tryz.ntmps97, Tryz.results97]
  have hlen := ibulk_len d.items
  have hdb : d.bulk = ibulk d.items + d.trailer.bulk := rfl
  refine AW.rS ?_
  refine AW.seq ?_
  refine AW.rSC ?_
  refine awOps.cons (awGuard.c1 (c_docs_Check _ d (by omega)) ?_)
  refine awOps.rn ?_
  refine AW.rS ?_
  refine AW.c2 ?_ ?_
  · intro h7
    refine AW.rS ?_
    refine AW.rt ?_
    rw [(free_doc h7).1, (free_doc h7).2]
  · intro h7
    refine AW.skip ?_
    refine AW.rS ?_
    refine AW.seq ?_
    refine AW.rS ?_
    refine AW.rS ?_
    refine AW.c2 ?_ ?_
    · intro h16
      have hnb := ((items_iff.1 (docE_items h7)).2 _ (getD_mem (l := d.items) (i := d.items.length - 1) (by omega))).1
      simp only [numsB, Bool.and_eq_true, decide_eq_true_eq] at hnb
      have hln : lastN d.items = (d.items.getD (d.items.length - 1) Itm.zero).num + 1 := by rw [lastN, if_neg (by omega)]
      refine AW.rL ?_
      refine AW.seq ?_
      refine AW.rS ?_
      refine AW.c2 ?_ ?_
      · intro h20
        refine AW.rS ?_
        refine AW.rt ?_
        rw [(free_full h7 (by omega)).1, (free_full h7 (by omega)).2]
      · intro h20
        refine AW.skip ?_
        refine AW.rS ?_
        refine AW.rt ?_
        rw [(free_ok h7 (by omega)).1, (free_ok h7 (by omega)).2, hln]
    · intro h16
      have hln : lastN d.items = 1 := by rw [lastN, if_pos (by omega)]
      refine AW.skip ?_
      refine AW.seq ?_
      refine AW.rS ?_
      refine AW.c2 ?_ ?_
      · intro h31
        simp at h31
      · intro h31
        refine AW.skip ?_
        refine AW.rS ?_
        refine AW.rt ?_
        rw [(free_ok h7 (by omega)).1, (free_ok h7 (by omega)).2, hln]
theorem c_docs_Add (gl : List (Nat × AV)) (d : Dc) (o : Pob) (h : d.bulk + o.bulk ≤ 16777000 := by first | omega | exact u8_le _ | assumption | (simp; done) | (simp; omega)) : FnP Tryz.prog (gl) 58 [.agg d.cells, .agg o.cells] fun r => r = .ret (.tup [.agg (addO d o).cells, .int .i64 (addN d o), .int .i64 (addE d o)]) := by
  refine FnP.intro Tryz.func58 rfl rfl (by simp [Tryz.ntmps58]) ?_
  simp only [argEnv, Tryz.ntmps58, Tryz.results58]
  refine AW.rS ?_
  refine AW.rSC ?_
  refine awOps.cons (awGuard.c1 (c_docs_Free _ d (by omega)) ?_)
  refine awOps.rn ?_
  refine AW.seq ?_
  refine AW.rS ?_
  refine AW.c2 ?_ ?_
  · intro h7
    refine AW.rS ?_
    refine AW.rt ?_
    rw [(add_free h7).1, (add_free h7).2.1, (add_free h7).2.2]; rfl
  · intro h7
    refine AW.skip ?_
    refine AW.rSC ?_
    refine awOps.cons (awGuard.c1 (c_docs_Put _ d ⟨freeN d, 0, o⟩ (by show d.bulk + o.bulk ≤ _; omega)) ?_)
    refine awOps.rn ?_
    refine AW.seq ?_
    refine AW.rS ?_
    refine AW.c2 ?_ ?_
    · intro h17
      refine AW.rS ?_
      refine AW.rt ?_
      rw [(add_put h7 h17).1, (add_put h7 h17).2.1, (add_put h7 h17).2.2]; rfl
    · intro h17
      refine AW.skip ?_
      refine AW.rS ?_
      refine AW.rt ?_
      rw [(add_ok h7 h17).1, (add_ok h7 h17).2.1, (add_ok h7 h17).2.2]
end Go.Proofs


namespace Aw
open Go
theorem ibulk_take {l : List Itm} {i : Nat} (h : i < l.length) : ibulk (l.take (i + 1)) = ibulk (l.take i) + ((l.getD i Itm.zero).obj.bulk + 1) := sum_take (f := fun i : Itm => i.obj.bulk + 1) (d := Itm.zero) h
theorem ibulk_take_le (l : List Itm) (i : Nat) : ibulk (l.take i) ≤ ibulk l := sum_take_le l i _
theorem takeItm_succ {a b : List Itm} {i : Nat} (h : i < a.length) (hl : a.length = b.length) (he : a.take i = b.take i) (hg : a.getD i Itm.zero = b.getD i Itm.zero) : a.take (i + 1) = b.take (i + 1) := by
  rw [List.take_succ_eq_append_getElem h, List.take_succ_eq_append_getElem (hl ▸ h), he]
  simp only [List.getD, List.getElem?_eq_getElem h, List.getElem?_eq_getElem (hl ▸ h), Option.getD_some] at hg
  rw [hg]
theorem trailerK_yes {o : Pob} {i : Nat} (h : i < trailK.length) (hg : getB o (trailK.getD i []) = true) : trailerK o (i + 1) = trailerK o i ++ [trailK.getD i []] := filter_take_yes h hg
theorem trailerK_no {o : Pob} {i : Nat} (h : i < trailK.length) (hg : getB o (trailK.getD i []) = false) : trailerK o (i + 1) = trailerK o i := filter_take_no h hg
theorem trailerK_len (o : Pob) (i : Nat) : (trailerK o i).length ≤ 3 := filter_take_len trailK i (getB o)
theorem Dc_eq (a b : Dc) : a = b ↔ a.items = b.items ∧ a.trailer = b.trailer := by cases a; cases b; simp
instance dcDec : DecidableEq Dc := fun a b => decidable_of_iff (a.items = b.items ∧ a.trailer = b.trailer) (Dc_eq a b).symm
end Aw

namespace Go.Proofs
open Go Aw
set_option linter.unusedSimpArgs false
set_option linter.unusedVariables false
set_option maxRecDepth 100000
set_option maxHeartbeats 1000000

theorem c_docs_Apply (gl : List (Nat × AV)) (d : Dc) (l : List Itm) (ns : List Int) (h : d.bulk + ibulk l ≤ 16777000) (hns : ns.length ≤ 16777000) : FnP Tryz.prog (gl) 54 [.agg d.cells, .sl (itemsAV l), .sl (intsAV ns)] fun r => r = .ret (.tup [.agg (applyD d l ns).cells, .int .i64 (applyE d l ns)]) := by
  refine FnP.intro Tryz.func54 rfl rfl (by simp [Tryz.ntmps54]) ?_
  simp only [argEnv, Tryz.ntmps54, Tryz.results54]
  have hlen := ibulk_len d.items
  have hll := ibulk_len l
  have hdb : d.bulk = ibulk d.items + d.trailer.bulk := rfl
  refine AW.rS ?_
  refine AW.seq ?_
  refine AW.rSC ?_
  refine awOps.cons (awGuard.c1 (c_docs_Check _ d (by omega)) ?_)
  refine awOps.rn ?_
  refine AW.rS ?_
  refine AW.c2 ?_ ?_
  · intro h7
    refine AW.rS ?_
    refine AW.rt ?_
    rw [(apply_doc h7).1, (apply_doc h7).2]; rfl
  · intro h7
    refine AW.skip ?_
    have hs0 := doc_incr h7
    refine AW.rSC ?_
    refine awOps.cons (awGuard.cH [] (h_docs_fresh _ d (by omega)) ?_)
    refine awOps.rn ?_
    refine AW.seq ?_
    refine AW.rS ?_
    refine AW.block ?_
    refine AW.lk (S := { p : Nat × List Itm // p.1 ≤ ns.length ∧ incrN p.2 ∧ ibulk p.2 ≤ ibulk d.items ∧ applyT d.items ns = applyT p.2 (ns.drop p.1) }) [1, 3, 6, 24, 25] (fun s_ => [(26, .int .i64 s_.1.1)]) (fun s_ => [(0, .cells [.row 2 0 s_.1.2.length, .int .i64 d.trailer.kind, .int .i64 d.trailer.num, .int .i64 d.trailer.gen, .str d.trailer.str, .sl (strsAV d.trailer.keys), .sl (objsAV d.trailer.kids)]), (1, .cells [.raw (.slice none 0 0), .int .i64 0, .int .i64 0, .int .i64 0, .str [], .raw (.slice none 0 0), .raw (.slice none 0 0)]), (2, .row 8 (itemsAV s_.1.2) true)]) 3 (fun s_ => ns.length - s_.1.1) ⟨(0, d.items), Nat.zero_le _, hs0, Nat.le_refl _, rfl⟩ ?_ ?_
    · refine St.le.vw [0, 1, 3]
    rintro ⟨⟨i, x⟩, hi, hx, hxb, hxs⟩
    try dsimp only at hi
    try dsimp only at hx
    try dsimp only at hxb
    try dsimp only at hxs
    refine AW.rS ?_
    refine AW.seq ?_
    refine AW.c2 ?_ ?_
    · intro h21
      have hlx := ibulk_len x
      have htb := takeI_bulk x (ns.getD i 0)
      refine AW.skip ?_
      refine AW.seq ?_
      refine AW.block ?_
      refine AW.rS ?_
      refine AW.rSC ?_
      refine awOps.cons (awGuard.cH [2] (h_docs_take _ x (ns.getD i 0) (by omega) hx) ?_)
      refine awOps.rn ?_
      refine AW.seq ?_
      refine AW.rS ?_
      refine AW.c2 ?_ ?_
      · intro h31
        refine AW.rS ?_
        refine AW.rt ?_
        have hn : applyT d.items ns = none := by rw [hxs, applyT_drop h21, if_neg (by rw [h31]; simp)]
        rw [(apply_none h7 hn).1, (apply_none h7 hn).2]; rfl
      · intro h31
        refine AW.skip ?_
        refine AW.rL ?_
        refine AW.rL ?_
        refine ⟨⟨(i + 1, takeI x (ns.getD i 0)), by dsimp only; omega, takeI_incr hx, by dsimp only; omega, by rw [hxs, applyT_drop h21, if_pos h31]⟩, ?_, ?_⟩
        · refine St.le.vw [0, 1, 2]
        · simp only []; omega
    · intro h21
      refine AW.exit ?_
      have hT : applyT d.items ns = some x := by rw [hxs, List.drop_of_length_le (by omega), applyT]
      refine AW.seq ?_
      refine AW.rS ?_
      refine AW.block ?_
      refine AW.lk (S := { p : Nat × List Itm // p.1 ≤ l.length ∧ incrN p.2 ∧ ibulk p.2 ≤ ibulk d.items + ibulk (l.take p.1) ∧ p.2 = (l.take p.1).foldl layI x ∧ aloneL l = aloneL (l.drop p.1) }) [3, 6, 43, 44] (fun s_ => [(45, .int .i64 s_.1.1)]) (fun s_ => [(0, .cells [.row 2 0 s_.1.2.length, .int .i64 d.trailer.kind, .int .i64 d.trailer.num, .int .i64 d.trailer.gen, .str d.trailer.str, .sl (strsAV d.trailer.keys), .sl (objsAV d.trailer.kids)]), (1, .cells [.raw (.slice none 0 0), .int .i64 0, .int .i64 0, .int .i64 0, .str [], .raw (.slice none 0 0), .raw (.slice none 0 0)]), (2, .row 8 (itemsAV s_.1.2) true)]) 3 (fun s_ => l.length - s_.1.1) ⟨(0, x), Nat.zero_le _, hx, by dsimp only; omega, rfl, rfl⟩ ?_ ?_
      · refine St.le.vw [0, 1, 2]
      rintro ⟨⟨k, y⟩, hk, hy, hyb, hyf, hya⟩
      try dsimp only at hk
      try dsimp only at hy
      try dsimp only at hyb
      try dsimp only at hyf
      try dsimp only at hya
      refine AW.rS ?_
      refine AW.seq ?_
      refine AW.c2 ?_ ?_
      · intro h46
        have hgb := ibulk_get (l := l) (i := k) (by omega)
        have hly := ibulk_len y
        have hit := ibulk_take (l := l) (i := k) (by omega)
        have hil := ibulk_take_le l (k + 1)
        have hlb := layI_bulk y (l.getD k Itm.zero)
        refine AW.skip ?_
        refine AW.seq ?_
        refine AW.block ?_
        refine AW.rS ?_
        refine AW.seq ?_
        refine AW.rSC ?_
        refine awOps.cons (awGuard.c1 (c_docs_alone _ (l.getD k Itm.zero) (by omega)) ?_)
        refine awOps.rn ?_
        refine AW.rS ?_
        refine AW.c2 ?_ ?_
        · intro h56
          refine AW.rS ?_
          refine AW.rt ?_
          have hn : aloneL l = aloneE (l.getD k Itm.zero) := by rw [hya, aloneL_drop h46, if_pos h56]
          have ha := apply_alone h7 hT (by rw [hn]; exact h56)
          rw [ha.1, ha.2, hn]; rfl
        · intro h56
          refine AW.skip ?_
          refine AW.rLC ?_
          refine awOps.cons (awGuard.cH [2] (h_docs_lay _ y (l.getD k Itm.zero) (by omega) (by omega) hy) ?_)
          refine awOps.rn ?_
          refine AW.rL ?_
          refine ⟨⟨(k + 1, layI y (l.getD k Itm.zero)), by dsimp only; omega, layI_incr hy, by dsimp only; omega, by rw [foldl_take (d := Itm.zero) h46, ← hyf], by rw [hya, aloneL_drop h46, if_neg (by simpa using h56)]⟩, ?_, ?_⟩
          · refine St.le.vw [0, 1, 4]
          · simp only []; omega
      · intro h46
        refine AW.exit ?_
        have hk' : k = l.length := by omega
        subst hk'
        have hil := ibulk_take_le l l.length
        have hly := ibulk_len y
        rw [List.take_length] at hyf
        rw [List.drop_length, aloneL] at hya
        have ha := apply_ok h7 hT hya
        rw [← hyf] at ha
        refine AW.rSC ?_
        refine awOps.cons (awGuard.c1 (c_docs_told _ ⟨y, d.trailer⟩ (by simp only [Dc.bulk]; omega)) ?_)
        refine awOps.rn ?_
        refine AW.rt ?_
        rw [ha.1, ha.2]
end Go.Proofs

namespace Aw
open Go
def leastD : Dc := ⟨[⟨2, 0, .mk 7 0 0 [] [[65]] [.mk 8 5 1 [] [] []]⟩, ⟨5, 1, .mk 2 7 0 [] [] []⟩], .mk 7 0 0 [] [[82, 111, 111, 116]] [.mk 8 2 0 [] [] []]⟩
def lvI3 : Itm := ⟨3, 0, .mk 1 0 0 [] [] []⟩
def lvI2 : Itm := ⟨2, 0, .mk 1 0 0 [] [] []⟩
def lvI9 : Itm := ⟨9, 0, .mk 8 2 0 [] [] []⟩
def lvX3 : Itm := ⟨3, 0, .mk 9 0 0 [] [[84, 121, 112, 101]] [.mk 5 0 0 [88, 82, 101, 102] [] []]⟩
def lvN : Pob := .mk 5 0 0 [120] [] []
def lvA : Dc := putO leastD lvI3
def lvC : Dc := addO leastD lvN
def lvT : Pob := .mk 7 0 0 [] [[82, 111, 111, 116], [83, 105, 122, 101]] [.mk 2 1 0 [] [] [], .mk 2 1 0 [] [] []]
end Aw
namespace Aw
open Go
theorem pathL_bulk {d : Dc} (h : d.bulk ≤ 16777216) : ∀ (ks : List (List UInt8)) (o : Pob), o.bulk ≤ 16777216 → (pathL d o ks).bulk ≤ 16777216
  | [], o, ho => by rw [pathL]; exact ho
  | k :: r, o, ho => by
    rw [pathL]
    split
    · simp [Pob.null, Pob.bulk, bulks]
    · have := get_bulk o k
      exact pathL_bulk h r _ (follow_bulk h (by omega))
theorem pathO_bulk {d : Dc} {o : Pob} (h : d.bulk ≤ 16777216) (ho : o.bulk ≤ 16777216) (ks : List (List UInt8)) : (pathO d o ks).bulk ≤ 16777216 := pathL_bulk h ks _ (follow_bulk h ho)
theorem strsAV_app (a b : List (List UInt8)) : strsAV (a ++ b) = strsAV a ++ strsAV b := by simp [strsAV]
end Aw

namespace Go.Proofs
open Go Aw
set_option linter.unusedSimpArgs false
set_option linter.unusedVariables false
set_option maxRecDepth 100000
set_option maxHeartbeats 1000000

theorem c_foliantref05_Texts (gl : List (Nat × AV)) (a b : List (List UInt8)) (ha : a.length ≤ 16777216 := by first | omega | exact u8_le _ | assumption | (simp; done) | (simp; omega)) : FnP Tryz.prog (gl) 64 [.sl (strsAV a), .sl (strsAV b)] fun r => r = .ret (.bool (decide (a = b))) := by
  refine FnP.intro Tryz.func64 rfl rfl (by simp [Tryz.ntmps64]) ?_
  simp only [argEnv, Tryz.ntmps64, Tryz.results64]
  refine AW.rS ?_
  refine AW.seq ?_
  refine AW.rS ?_
  refine AW.c2 ?_ ?_
  · intro h4
    refine AW.rS ?_
    refine AW.rt ?_
    rw [decide_eq_false (fun e => h4 (by rw [e]))]
  · intro h4
    refine AW.skip ?_
    refine AW.seq ?_
    refine AW.rS ?_
    refine AW.block ?_
    refine AW.lk (S := { i : Nat // i ≤ a.length ∧ a.take i = b.take i }) [0, 1, 12] (fun s_ => [(13, .int .i64 s_.1)]) (fun s_ => []) 0 (fun s_ => a.length - s_.1) ⟨0, Nat.zero_le _, rfl⟩ ?_ ?_
    · refine St.le.vw []
    rintro ⟨i, hi, hs⟩
    try dsimp only at hi
    try dsimp only at hs
    refine AW.rS ?_
    refine AW.seq ?_
    refine AW.c2 ?_ ?_
    · intro h15
      refine AW.skip ?_
      refine AW.seq ?_
      refine AW.block ?_
      refine AW.rS ?_
      refine AW.dS [(0, 0), (1, 0), (2, 1), (3, 1), (4, 0), (5, 0), (6, 1), (7, 1), (8, 0)] ?_
      refine AW.c2 ?_ ?_
      · intro h21
        refine AW.rS ?_
        refine AW.rt ?_
        rw [decide_eq_false (fun e => h21 (by rw [e]))]
      · intro h21
        refine AW.skip ?_
        refine AW.rL ?_
        refine ⟨⟨i + 1, by omega, takeS_succ h15 (by omega) hs h21⟩, ?_, ?_⟩
        · refine St.le.vw []
        · simp only []; omega
    · intro h15
      refine AW.exit ?_
      refine AW.rS ?_
      refine AW.rt ?_
      rw [List.take_of_length_le (by omega), List.take_of_length_le (by omega)] at hs
      simp [hs]
theorem rlist_step (gl : List (Nat × AV)) (N : Nat) (ih : ∀ x y : Pob, x.bulk < N → FnP Tryz.prog gl 25 [.agg x.cells, .agg y.cells] fun r => r = .ret (.bool (decide (x = y)))) (a b : List Pob) (ha : a.length ≤ 16777216) (hb : ∀ i, i < a.length → (a.getD i Pob.null).bulk < N) : FnP Tryz.prog (gl) 65 [.sl (objsAV a), .sl (objsAV b)] fun r => r = .ret (.bool (decide (a = b))) := by
  refine FnP.intro Tryz.func65 rfl rfl (by simp [Tryz.ntmps65]) ?_
  simp only [argEnv, Tryz.ntmps65, Tryz.results65]
  refine AW.rS ?_
  refine AW.seq ?_
  refine AW.rS ?_
  refine AW.c2 ?_ ?_
  · intro h4
    refine AW.rS ?_
    refine AW.rt ?_
    rw [decide_eq_false (fun e => h4 (by rw [e]))]
  · intro h4
    refine AW.skip ?_
    refine AW.seq ?_
    refine AW.rS ?_
    refine AW.block ?_
    refine AW.lk (S := { i : Nat // i ≤ a.length ∧ a.take i = b.take i }) [0, 1, 12] (fun s_ => [(13, .int .i64 s_.1)]) (fun s_ => []) 0 (fun s_ => a.length - s_.1) ⟨0, Nat.zero_le _, rfl⟩ ?_ ?_
    · refine St.le.vw []
    rintro ⟨i, hi, hs⟩
    try dsimp only at hi
    try dsimp only at hs
    refine AW.rS ?_
    refine AW.seq ?_
    refine AW.c2 ?_ ?_
    · intro h15
      refine AW.skip ?_
      refine AW.seq ?_
      refine AW.block ?_
      refine AW.rS ?_
      refine AW.dSC [(0, 0), (1, 0), (2, 0), (3, 1), (4, 0), (5, 0), (6, 0), (7, 1), (8, 2), (9, 0)] ?_
      refine awPlan.only rfl ?_
      refine awGuard.c1 (ih (a.getD i Pob.null) (b.getD i Pob.null) (hb i (by omega))) ?_
      refine awPlan.rn ?_
      refine AW.c2 ?_ ?_
      · intro h23
        refine AW.rS ?_
        refine AW.rt ?_
        rw [decide_eq_false (fun e => h23 (by rw [e]))]
      · intro h23
        refine AW.skip ?_
        refine AW.rL ?_
        refine ⟨⟨i + 1, by omega, takeO_succ h15 (by omega) hs h23⟩, ?_, ?_⟩
        · refine St.le.vw []
        · simp only []; omega
    · intro h15
      refine AW.exit ?_
      refine AW.rS ?_
      refine AW.rt ?_
      rw [List.take_of_length_le (by omega), List.take_of_length_le (by omega)] at hs
      simp [hs]
theorem rsame_step (gl : List (Nat × AV)) (N : Nat) (hN : N ≤ 16777216) (ih : ∀ x y : Pob, x.bulk < N → FnP Tryz.prog gl 25 [.agg x.cells, .agg y.cells] fun r => r = .ret (.bool (decide (x = y)))) (a b : Pob) (ha : a.bulk ≤ N) : FnP Tryz.prog (gl) 25 [.agg a.cells, .agg b.cells] fun r => r = .ret (.bool (decide (a = b))) := by
  refine FnP.intro Tryz.func25 rfl rfl (by simp [Tryz.ntmps25]) ?_
  simp only [argEnv, Tryz.ntmps25, Tryz.results25]
  have hbulk := Pob.bulk_eq a
  refine AW.rS ?_
  refine AW.rSC ?_
  refine awOps.cons (awGuard.cG (fun hg => c_foliantref05_Texts _ a.keys b.keys (by omega)) ?_)
  refine awOps.rn ?_
  refine awOps.cons (awGuard.cG (fun hg => rlist_step _ N ih a.kids b.kids (by omega) (fun i hi => Nat.lt_of_lt_of_le (Pob.bulk_kid hi) ha)) ?_)
  refine awOps.rn ?_
  refine AW.rt ?_
  rw [show ∀ x y : Bool, x = y → AE.ret (.bool x) = AE.ret (.bool y) from fun _ _ h => by rw [h]]
  rw [Bool.eq_iff_iff]
  simp only [decide_eq_true_eq, Bool.cond_false_right, Bool.and_eq_true, Pob_eq a b, and_assoc]
theorem rsame_all (gl : List (Nat × AV)) (N : Nat) : N ≤ 16777216 → ∀ x y : Pob, x.bulk ≤ N → FnP Tryz.prog gl 25 [.agg x.cells, .agg y.cells] fun r => r = .ret (.bool (decide (x = y))) := by
  induction N using Nat.strongRecOn with
  | ind N IH => exact fun hN x y hx => rsame_step gl N hN (fun x' y' h => IH x'.bulk h (by omega) x' y' (Nat.le_refl _)) x y hx
theorem c_foliantref05_Same (gl : List (Nat × AV)) (x y : Pob) (h : x.bulk ≤ 16777216 := by first | assumption | omega) : FnP Tryz.prog gl 25 [.agg x.cells, .agg y.cells] fun r => r = .ret (.bool (decide (x = y))) := rsame_all gl 16777216 (Nat.le_refl _) x y h
theorem size_step (gl : List (Nat × AV)) (N : Nat) (hN : N ≤ 16777216) (ih : ∀ o' : Pob, o'.bulk < N → o'.psize ≤ 4611686018427387904 → FnP Tryz.prog gl 13 [.agg o'.cells] fun r => r = .ret (.int .i64 o'.psize)) (o : Pob) (ho : o.bulk ≤ N) (hp : o.psize ≤ 4611686018427387904) : FnP Tryz.prog (gl) 13 [.agg o.cells] fun r => r = .ret (.int .i64 o.psize) := by
  refine FnP.intro Tryz.func13 rfl rfl (by simp [Tryz.ntmps13]) ?_
  simp only [argEnv, Tryz.ntmps13, Tryz.results13]
  have hb := Pob.bulk_eq o
  have hpe := Pob.psize_eq o
  have hk0 := ksize_nil
  have hp0 := psizes_nil
  refine AW.rS ?_
  refine AW.rS ?_
  refine AW.seq ?_
  refine AW.rS ?_
  refine AW.block ?_
  refine AW.lk (S := { i : Nat // i ≤ o.keys.length }) [1, 14, 15] (fun s_ => [(3, .int .i64 ((1 + o.str.length / 50 + ksize (o.keys.take s_.1) : Nat) : Int)), (16, .int .i64 s_.1)]) (fun s_ => [(0, .cells o.cells)]) 1 (fun s_ => o.keys.length - s_.1) ⟨0, Nat.zero_le _⟩ ?_ ?_
  · refine St.le.vw [0]
  rintro ⟨i, hi⟩
  try dsimp only at hi
  refine AW.rS ?_
  refine AW.seq ?_
  refine AW.c2 ?_ ?_
  · intro h9
    have h1 := ksize_take h9
    have h2 := ksize_take_le o.keys (i + 1)
    refine AW.skip ?_
    refine AW.seq ?_
    refine AW.block ?_
    refine AW.rS ?_
    refine AW.rL ?_
    refine AW.rL ?_
    refine ⟨⟨i + 1, by omega⟩, ?_, ?_⟩
    · refine St.le.vw [0]
    · simp only []; omega
  · intro h9
    refine AW.exit ?_
    obtain rfl : i = o.keys.length := by omega
    rw [List.take_length]
    refine AW.seq ?_
    refine AW.rS ?_
    refine AW.block ?_
    refine AW.lk (S := { i : Nat // i ≤ o.kids.length }) [27, 28] (fun s_ => [(3, .int .i64 ((1 + o.str.length / 50 + ksize o.keys + psizes (o.kids.take s_.1) : Nat) : Int)), (29, .int .i64 s_.1)]) (fun s_ => [(0, .cells o.cells)]) 1 (fun s_ => o.kids.length - s_.1) ⟨0, Nat.zero_le _⟩ ?_ ?_
    · refine St.le.vw [0]
    rintro ⟨j, hj⟩
    try dsimp only at hj
    refine AW.rS ?_
    refine AW.seq ?_
    refine AW.c2 ?_ ?_
    · intro h24
      have h1 := psizes_take h24
      have h2 := psizes_take_le o.kids (j + 1)
      have h3 := psizes_get h24
      refine AW.skip ?_
      refine AW.seq ?_
      refine AW.block ?_
      refine AW.rS ?_
      refine AW.rLC ?_
      refine awOps.cons (awGuard.c1 (ih (o.kids.getD j Pob.null) (Nat.lt_of_lt_of_le (Pob.bulk_kid (by omega)) ho) (by omega)) ?_)
      refine awOps.rn ?_
      refine AW.rL ?_
      refine ⟨⟨j + 1, by omega⟩, ?_, ?_⟩
      · refine St.le.vw [0]
      · simp only []; omega
    · intro h24
      refine AW.exit ?_
      refine AW.rS ?_
      refine AW.rt ?_
      obtain rfl : j = o.kids.length := by omega
      rw [List.take_length, hpe]
theorem size_all (gl : List (Nat × AV)) (N : Nat) : N ≤ 16777216 → ∀ o : Pob, o.bulk ≤ N → o.psize ≤ 4611686018427387904 → FnP Tryz.prog gl 13 [.agg o.cells] fun r => r = .ret (.int .i64 o.psize) := by
  induction N using Nat.strongRecOn with
  | ind N IH => exact fun hN x hx hp => size_step gl N hN (fun x' h hp' => IH x'.bulk h (by omega) x' (Nat.le_refl _) hp') x hx hp
theorem c_foliantref05_Size (gl : List (Nat × AV)) (o : Pob) (h : o.bulk ≤ 16777216) (hp : o.psize ≤ 4611686018427387904) : FnP Tryz.prog gl 13 [.agg o.cells] fun r => r = .ret (.int .i64 o.psize) := size_all gl 16777216 (Nat.le_refl _) o h hp
end Go.Proofs

namespace Go.Proofs
open Go Aw
set_option linter.unusedSimpArgs false
set_option linter.unusedVariables false
set_option maxRecDepth 100000
set_option maxHeartbeats 1000000

theorem c_foliantref19_SameItem (gl : List (Nat × AV)) (a b : Itm) (h : a.obj.bulk ≤ 16777216 := by first | omega | exact u8_le _ | assumption | (simp; done) | (simp; omega)) : FnP Tryz.prog (gl) 20 [.agg a.cells, .agg b.cells] fun r => r = .ret (.bool (decide (a = b))) := by
  refine FnP.intro Tryz.func20 rfl rfl (by simp [Tryz.ntmps20]) ?_
  simp only [argEnv, Tryz.ntmps20, Tryz.results20]
  refine AW.rS ?_
  refine AW.rSC ?_
  refine awOps.cons (awGuard.cG (fun hg => c_foliantref05_Same _ a.obj b.obj) ?_)
  refine awOps.rn ?_
  refine AW.rt ?_
  rw [show ∀ x y : Bool, x = y → AE.ret (.bool x) = AE.ret (.bool y) from fun _ _ h => by rw [h]]
  rw [Bool.eq_iff_iff]
  simp only [decide_eq_true_eq, Bool.cond_false_right, Bool.and_eq_true, Itm_eq a b, and_assoc]
theorem c_foliantref19_Size (gl : List (Nat × AV)) (d : Dc) (h : d.bulk ≤ 16777216) (hp : d.size ≤ 4611686018427387904) : FnP Tryz.prog (gl) 40 [.agg d.cells] fun r => r = .ret (.int .i64 d.size) := by
  refine FnP.intro Tryz.func40 rfl rfl (by simp [Tryz.ntmps40]) ?_
  simp only [argEnv, Tryz.ntmps40, Tryz.results40]
  have hlen := ibulk_len d.items
  have hdb : d.bulk = ibulk d.items + d.trailer.bulk := rfl
  have hds : d.size = d.trailer.psize + isize d.items := rfl
  have hk0 := isize_nil
  refine AW.rS ?_
  refine AW.rSC ?_
  refine awOps.cons (awGuard.c1 (c_foliantref05_Size _ d.trailer (by omega) (by omega)) ?_)
  refine awOps.rn ?_
  refine AW.seq ?_
  refine AW.rS ?_
  refine AW.block ?_
  refine AW.lk (S := { i : Nat // i ≤ d.items.length }) [10, 11] (fun s_ => [(3, .int .i64 ((d.trailer.psize + isize (d.items.take s_.1) : Nat) : Int)), (12, .int .i64 s_.1)]) (fun s_ => [(0, .cells d.cells)]) 1 (fun s_ => d.items.length - s_.1) ⟨0, Nat.zero_le _⟩ ?_ ?_
  · refine St.le.vw [0]
  rintro ⟨i, hi⟩
  try dsimp only at hi
  refine AW.rS ?_
  refine AW.seq ?_
  refine AW.c2 ?_ ?_
  · intro h11
    have h1 := isize_take h11
    have h2 := isize_take_le d.items (i + 1)
    have hgb := ibulk_get (l := d.items) (i := i) (by omega)
    refine AW.skip ?_
    refine AW.seq ?_
    refine AW.block ?_
    refine AW.rS ?_
    refine AW.rLC ?_
    refine awOps.cons (awGuard.c1 (c_foliantref05_Size _ (d.items.getD i Itm.zero).obj (by omega) (by omega)) ?_)
    refine awOps.rn ?_
    refine AW.rL ?_
    refine ⟨⟨i + 1, by omega⟩, ?_, ?_⟩
    · refine St.le.vw [0]
    · simp only []; omega
  · intro h11
    refine AW.exit ?_
    refine AW.rS ?_
    refine AW.rt ?_
    obtain rfl : i = d.items.length := by omega
    rw [List.take_length, hds]
end Go.Proofs

namespace Aw
open Go
/-- the key 'k' lies in the object with the value 'v' -/
def Pob.has (o : Pob) (k : List UInt8) (v : Pob) : Prop := ∃ i, i < o.keys.length ∧ o.keys.getD i [] = k ∧ o.kids.getD i Pob.null = v
/-- keys that increase, each with its value -/
def Pob.kvOk (o : Pob) : Prop := incr o.keys ∧ o.keys.length = o.kids.length
theorem incr_inj {ks : List (List UInt8)} (hs : incr ks) {i j : Nat} (hi : i < ks.length) (hj : j < ks.length) (h : ks.getD i [] = ks.getD j []) : i = j := by
  rcases Nat.lt_trichotomy i j with g | g | g
  · have := hs i j g hj; rw [h, bl_irrefl] at this; cases this
  · exact g
  · have := hs j i g hi; rw [h, bl_irrefl] at this; cases this
theorem kthere_at {ks : List (List UInt8)} {key : List UInt8} (h : kthere ks key = true) : ks.getD (kplace ks key) [] = key := by
  simp only [kthere, Bool.and_eq_true, decide_eq_true_eq] at h; exact h.2
theorem kthere_iff {ks : List (List UInt8)} {key : List UInt8} (hs : incr ks) : kthere ks key = true ↔ ∃ i, i < ks.length ∧ ks.getD i [] = key := by
  constructor
  · intro h; exact ⟨_, kthere_lt h, kthere_at h⟩
  · rintro ⟨i, hi, rfl⟩
    have e : kplace ks (ks.getD i []) = i := kplace_eq (Nat.le_of_lt hi) (fun a ha => hs a i ha hi) (fun _ => bl_irrefl _)
    rw [kthere_eq e]
    simp [hi]
theorem kvOk_of_chk {o : Pob} {d : Int} (h : chk o d = 0) (hk : keyedB o.kind = true) : o.kvOk := ⟨rising_incr (chk_rising h hk), (chk_rising h hk).1⟩
theorem getD_delAt' {α : Type} {l : List α} {i j : Nat} {d : α} : (delAt l i).getD j d = if j < i then l.getD j d else l.getD (j + 1) d := by
  simp only [delAt, List.getD, List.getElem?_append, List.getElem?_take, List.length_take, List.getElem?_drop]
  grind
theorem getD_set' {α : Type} {l : List α} {i j : Nat} {x d : α} (hi : i < l.length) : (l.set i x).getD j d = if j = i then x else l.getD j d := by
  simp only [List.getD, List.getElem?_set]
  grind
theorem has_one {o : Pob} (hs : o.kvOk) {k : List UInt8} {v w : Pob} (hv : o.has k v) (hw : o.has k w) : v = w := by
  obtain ⟨i, hi, e1, rfl⟩ := hv
  obtain ⟨j, hj, e2, rfl⟩ := hw
  rw [incr_inj hs.1 hi hj (e1.trans e2.symm)]
theorem has_withK {o : Pob} (hs : o.kvOk) {key : List UInt8} {v : Pob} {k : List UInt8} {w : Pob} : (o.withK key v).has k w ↔ (k = key ∧ w = v) ∨ (k ≠ key ∧ o.has k w) := by
  have hle := kplace_le o.keys key
  cases h : kthere o.keys key with
  | true =>
    have hl := kthere_lt h
    have hat := kthere_at h
    have hl' : kplace o.keys key < o.kids.length := by have := hs.2; omega
    rw [withK_there h]
    simp only [Pob.has, Pob.keys_mk, Pob.kids_mk]
    constructor
    · rintro ⟨i, hi, rfl, rfl⟩
      rw [getD_set' hl']
      by_cases e : i = kplace o.keys key
      · left; rw [if_pos e, e]; exact ⟨hat, rfl⟩
      · right
        refine ⟨fun e2 => e (incr_inj hs.1 hi hl (e2.trans hat.symm)), i, hi, rfl, ?_⟩
        rw [if_neg e]
    · rintro (⟨rfl, rfl⟩ | ⟨hne, i, hi, rfl, rfl⟩)
      · exact ⟨_, hl, hat, by rw [getD_set' hl', if_pos rfl]⟩
      · refine ⟨i, hi, rfl, ?_⟩
        rw [getD_set' hl', if_neg]
        rintro rfl
        exact hne hat
  | false =>
    rw [withK_new h]
    have hle' : kplace o.keys key ≤ o.kids.length := by have := hs.2; omega
    have hno : ∀ i, i < o.keys.length → o.keys.getD i [] ≠ key := by
      intro i hi e
      have := (kthere_iff hs.1).2 ⟨i, hi, e⟩
      rw [h] at this; cases this
    simp only [Pob.has, Pob.keys_mk, Pob.kids_mk, insAt_length]
    constructor
    · rintro ⟨i, hi, rfl, rfl⟩
      rw [getD_insAt hle, getD_insAt hle']
      by_cases e1 : i < kplace o.keys key
      · rw [if_pos e1, if_pos e1]
        exact .inr ⟨hno i (by omega), i, by omega, rfl, rfl⟩
      · rw [if_neg e1, if_neg e1]
        by_cases e2 : i = kplace o.keys key
        · rw [if_pos e2, if_pos e2]; exact .inl ⟨rfl, rfl⟩
        · rw [if_neg e2, if_neg e2]
          exact .inr ⟨hno (i - 1) (by omega), i - 1, by omega, rfl, rfl⟩
    · rintro (⟨rfl, rfl⟩ | ⟨hne, i, hi, rfl, rfl⟩)
      · refine ⟨kplace o.keys k, by omega, ?_, ?_⟩
        · rw [getD_insAt hle, if_neg (by omega), if_pos rfl]
        · rw [getD_insAt hle', if_neg (by omega), if_pos rfl]
      · by_cases e : i < kplace o.keys key
        · refine ⟨i, by omega, ?_, ?_⟩
          · rw [getD_insAt hle, if_pos e]
          · rw [getD_insAt hle', if_pos e]
        · refine ⟨i + 1, by omega, ?_, ?_⟩
          · rw [getD_insAt hle, if_neg (by omega), if_neg (by omega), Nat.add_sub_cancel]
          · rw [getD_insAt hle', if_neg (by omega), if_neg (by omega), Nat.add_sub_cancel]
theorem withK_kvOk {o : Pob} (hs : o.kvOk) (key : List UInt8) (v : Pob) : (o.withK key v).kvOk := withK_incr hs.1 hs.2
theorem has_lessK {o : Pob} (hs : o.kvOk) {key : List UInt8} (h : kthere o.keys key = true) {k : List UInt8} {w : Pob} : (o.lessK (kplace o.keys key)).has k w ↔ k ≠ key ∧ o.has k w := by
  have hl := kthere_lt h
  have hat := kthere_at h
  simp only [Pob.has, Pob.lessK, Pob.keys_mk, Pob.kids_mk, delAt_length hl]
  constructor
  · rintro ⟨i, hi, rfl, rfl⟩
    rw [getD_delAt', getD_delAt']
    by_cases e : i < kplace o.keys key
    · rw [if_pos e, if_pos e]
      refine ⟨fun e2 => ?_, i, by omega, rfl, rfl⟩
      have := incr_inj hs.1 (by omega) hl (e2.trans hat.symm)
      omega
    · rw [if_neg e, if_neg e]
      refine ⟨fun e2 => ?_, i + 1, by omega, rfl, rfl⟩
      have := incr_inj hs.1 (by omega) hl (e2.trans hat.symm)
      omega
  · rintro ⟨hne, i, hi, rfl, rfl⟩
    have hne' : i ≠ kplace o.keys key := by rintro rfl; exact hne hat
    by_cases e : i < kplace o.keys key
    · refine ⟨i, by omega, ?_, ?_⟩
      · rw [getD_delAt', if_pos e]
      · rw [getD_delAt', if_pos e]
    · refine ⟨i - 1, by omega, ?_, ?_⟩
      · rw [getD_delAt', if_neg (by omega), show i - 1 + 1 = i from by omega]
      · rw [getD_delAt', if_neg (by omega), show i - 1 + 1 = i from by omega]
theorem lessK_kvOk {o : Pob} (hs : o.kvOk) {i : Nat} (h : i < o.keys.length) : (o.lessK i).kvOk := by
  constructor
  · intro a b hab hb
    simp only [Pob.lessK, Pob.keys_mk] at hb ⊢
    rw [delAt_length h] at hb
    rw [getD_delAt', getD_delAt']
    split <;> split
    · exact hs.1 a b hab (by omega)
    · exact hs.1 a (b + 1) (by omega) (by omega)
    · omega
    · exact hs.1 (a + 1) (b + 1) (by omega) (by omega)
  · simp only [Pob.lessK, Pob.keys_mk, Pob.kids_mk]
    rw [delAt_length h, delAt_length (by have := hs.2; omega), hs.2]
/-- lists of keys that increase and have the same members are the same -/
theorem incr_keys_ext : ∀ {a b : List (List UInt8)}, incr a → incr b → (∀ k, (∃ i, i < a.length ∧ a.getD i [] = k) ↔ ∃ i, i < b.length ∧ b.getD i [] = k) → a = b
  | [], [], _, _, _ => rfl
  | [], y :: b, _, _, h => by
    obtain ⟨i, hi, _⟩ := (h y).2 ⟨0, by simp, rfl⟩
    simp at hi
  | x :: a, [], _, _, h => by
    obtain ⟨i, hi, _⟩ := (h x).1 ⟨0, by simp, rfl⟩
    simp at hi
  | x :: a, y :: b, ha, hb, h => by
    have hxy : x = y := by
      obtain ⟨i, hi, e1⟩ := (h x).1 ⟨0, by simp, rfl⟩
      obtain ⟨j, hj, e2⟩ := (h y).2 ⟨0, by simp, rfl⟩
      rcases Nat.eq_zero_or_pos i with rfl | g1
      · simpa using e1.symm
      · rcases Nat.eq_zero_or_pos j with rfl | g2
        · simpa using e2
        · have l1 := hb 0 i g1 hi
          have l2 := ha 0 j g2 hj
          rw [e1] at l1
          rw [e2] at l2
          simp only [List.getD_cons_zero] at l1 l2
          rw [bl_asymm l1] at l2
          cases l2
    subst hxy
    have tl : ∀ {l : List (List UInt8)}, incr (x :: l) → incr l := fun hl a b hab hb => by
      have := hl (a + 1) (b + 1) (by omega) (by simpa using hb)
      simpa using this
    congr 1
    refine incr_keys_ext (tl ha) (tl hb) fun k => ?_
    have half : ∀ {l m : List (List UInt8)}, incr (x :: l) → incr (x :: m) → ((∃ i, i < (x :: l).length ∧ (x :: l).getD i [] = k) → ∃ i, i < (x :: m).length ∧ (x :: m).getD i [] = k) → (∃ i, i < l.length ∧ l.getD i [] = k) → ∃ i, i < m.length ∧ m.getD i [] = k := by
      rintro l m hl hm hh ⟨i, hi, e⟩
      obtain ⟨j, hj, e2⟩ := hh ⟨i + 1, by simpa using hi, by simpa using e⟩
      cases j with
      | zero =>
        have := hl 0 (i + 1) (by omega) (by simpa using hi)
        simp only [List.getD_cons_zero, List.getD_cons_succ] at this e2
        rw [e, ← e2, bl_irrefl] at this
        cases this
      | succ j => exact ⟨j, by simpa using hj, by simpa using e2⟩
    exact ⟨half ha hb (h k).1, half hb ha (h k).2⟩
theorem has_key {o : Pob} {k : List UInt8} : (∃ v, o.has k v) ↔ ∃ i, i < o.keys.length ∧ o.keys.getD i [] = k :=
  ⟨fun ⟨_, i, hi, e, _⟩ => ⟨i, hi, e⟩, fun ⟨i, hi, e⟩ => ⟨_, i, hi, e, rfl⟩⟩
/-- objects with the same pairs are the same -/
theorem kv_ext {a b : Pob} (ha : a.kvOk) (hb : b.kvOk) (h1 : a.kind = b.kind) (h2 : a.num = b.num) (h3 : a.gen = b.gen) (h4 : a.str = b.str) (h : ∀ k v, a.has k v ↔ b.has k v) : a = b := by
  have hk : a.keys = b.keys := incr_keys_ext ha.1 hb.1 fun k => by
    rw [← has_key, ← has_key]
    exact ⟨fun ⟨v, hv⟩ => ⟨v, (h k v).1 hv⟩, fun ⟨v, hv⟩ => ⟨v, (h k v).2 hv⟩⟩
  have hl : a.kids.length = b.kids.length := by rw [← ha.2, ← hb.2, hk]
  refine (Pob_eq a b).2 ⟨h1, h2, h3, h4, hk, ?_⟩
  apply List.ext_getElem hl
  intro i hi hi'
  obtain ⟨j, hj, e1, e2⟩ := (h (a.keys.getD i []) (a.kids.getD i Pob.null)).1 ⟨i, by have := ha.2; omega, rfl, rfl⟩
  rw [hk] at e1
  have := incr_inj hb.1 hj (by have := hb.2; omega) e1
  subst this
  simp only [List.getD, List.getElem?_eq_getElem hi', List.getElem?_eq_getElem hi, Option.getD_some] at e2
  exact e2.symm
theorem kidxI_cases (ks : List (List UInt8)) (k : List UInt8) : (∃ i : Nat, i < ks.length ∧ kidxI ks k = i ∧ ks.getD i [] = k) ∨ (kidxI ks k = -1 ∧ ∀ j, j < ks.length → ks.getD j [] ≠ k) := by
  by_cases h : kidx ks k < ks.length
  · left
    refine ⟨kidx ks k, h, by simp [kidxI, h], ?_⟩
    have h2 : decide (ks[kidx ks k] = k) = true := List.findIdx_getElem (p := fun x => decide (x = k)) (w := h)
    simpa [List.getD, h] using h2
  · right
    refine ⟨by simp [kidxI, h], fun j hj e => h ?_⟩
    unfold kidx
    rw [List.findIdx_lt_length]
    refine ⟨ks[j], List.getElem_mem hj, ?_⟩
    simpa [List.getD, hj] using e
theorem get_has {o : Pob} (hs : o.kvOk) (hk : keyedB o.kind = true) {k : List UInt8} {v : Pob} : (getB o k = true ∧ getO o k = v) ↔ o.has k v := by
  rcases kidxI_cases o.keys k with ⟨i, hi, e, e2⟩ | ⟨e, h⟩
  · have hg := get_hit (o := o) (key := k) hk (by rw [e]; have := hs.2; omega)
    rw [hg.1, hg.2, e]
    simp only [true_and, Int.toNat_natCast]
    constructor
    · intro h; exact ⟨i, hi, e2, h⟩
    · rintro ⟨j, hj, e3, rfl⟩
      rw [incr_inj hs.1 hi hj (e2.trans e3.symm)]
  · have hg := get_miss (o := o) (key := k) (.inl (by omega))
    rw [hg.1]
    simp only [Bool.false_eq_true, false_and, false_iff]
    rintro ⟨j, hj, e3, _⟩
    exact h j hj e3
theorem get_no {o : Pob} (hs : o.kvOk) (hk : keyedB o.kind = true) {k : List UInt8} (h : ∀ v, ¬ o.has k v) : getB o k = false ∧ getO o k = Pob.null := by
  cases hb : getB o k with
  | true => exact absurd ((get_has hs hk).1 ⟨hb, rfl⟩) (h _)
  | false => exact ⟨rfl, by simp [getO, hb]⟩
theorem get_congr {a b : Pob} (ha : a.kvOk) (hb : b.kvOk) (ka : keyedB a.kind = true) (kb : keyedB b.kind = true) {k : List UInt8} (h : ∀ v, a.has k v ↔ b.has k v) : getB a k = getB b k ∧ getO a k = getO b k := by
  cases hg : getB b k with
  | true =>
    have := (get_has ha ka).2 ((h _).2 ((get_has hb kb).1 ⟨hg, rfl⟩))
    exact this
  | false =>
    have hn : getO b k = Pob.null := by simp [getO, hg]
    rw [hn]
    refine get_no ha ka fun v hv => ?_
    have := (get_has hb kb).2 ((h v).1 hv)
    rw [hg] at this
    cases this.1
theorem withK_frame (o : Pob) (key : List UInt8) (v : Pob) : (o.withK key v).kind = o.kind ∧ (o.withK key v).num = o.num ∧ (o.withK key v).gen = o.gen ∧ (o.withK key v).str = o.str := by
  unfold Pob.withK
  split <;> exact ⟨rfl, rfl, rfl, rfl⟩
theorem dropO_frame (o : Pob) (key : List UInt8) : (dropO o key).kind = o.kind ∧ (dropO o key).num = o.num ∧ (dropO o key).gen = o.gen ∧ (dropO o key).str = o.str := by
  unfold dropO
  split <;> exact ⟨rfl, rfl, rfl, rfl⟩
theorem dropO_has {o : Pob} {key : List UInt8} (h : chk o 1 = 0) (hk : keyedB o.kind = true) : (dropO o key).kvOk ∧ ∀ k v, (dropO o key).has k v ↔ k ≠ key ∧ o.has k v := by
  have hs := kvOk_of_chk h hk
  cases ht : kthere o.keys key with
  | true =>
    rw [dropO_yes (by simp [dropB, h, hk, ht])]
    exact ⟨lessK_kvOk hs (kthere_lt ht), fun k v => has_lessK hs ht⟩
  | false =>
    rw [dropO_no (by simp [dropB, ht])]
    refine ⟨hs, fun k v => ⟨fun hv => ⟨?_, hv⟩, fun hv => hv.2⟩⟩
    rintro rfl
    obtain ⟨i, hi, e, _⟩ := hv
    have := (kthere_iff hs.1).2 ⟨i, hi, e⟩
    rw [ht] at this; cases this
theorem chkL_iff {l : List Pob} {d : Int} : chkL l d = 0 ↔ ∀ x ∈ l, chk x d = 0 := by
  induction l with
  | nil => simp [chkL]
  | cons o l ih =>
    simp only [chkL, List.mem_cons]
    constructor
    · intro h
      split at h
      · rename_i h1
        rintro x (rfl | hx)
        · exact h1
        · exact ih.1 h x hx
      · rename_i h1; exact absurd h h1
    · intro h
      rw [if_pos (h o (.inl rfl))]
      exact ih.2 fun x hx => h x (.inr hx)
theorem chk_iff {o : Pob} {d : Int} : chk o d = 0 ↔ ownE o d = 0 ∧ ∀ x ∈ o.kids, chk x (d + 1) = 0 := by
  rw [chk_eq]
  constructor
  · intro h
    split at h
    · rename_i h1; exact ⟨h1, chkL_iff.1 h⟩
    · rename_i h1; exact absurd h h1
  · rintro ⟨h1, h2⟩
    rw [if_pos h1, chkL_iff.2 h2]
theorem ownE_iff {o : Pob} {d : Int} : ownE o d = 0 ↔ d ≤ 24 ∧ useB o d = true ∧ fitsB o = true ∧ shortB o = true ∧ (o.kids.length : Int) ≤ 8191 ∧ formB o = true := by
  refine ⟨ownE_spec, fun ⟨h1, h2, h3, h4, h5, h6⟩ => ?_⟩
  unfold ownE
  simp [h1, h2, h3, h4, h5, h6]
end Aw
