/- A part of the proof of a law of the seat: no condition of its own. -/
import Derived.Test.YtncdpaekhhcjoaaGreatPart14
namespace Go.Proofs
open Go Aw
set_option linter.unusedSimpArgs false
set_option linter.unusedVariables false
set_option maxRecDepth 100000
set_option maxHeartbeats 2000000
attribute [local go_sem] take_strsAV drop_strsAV app_strsAV app1_strsAV take_intsAV drop_intsAV app_intsAV app1_intsAV take_objsAV drop_objsAV app_objsAV app1_objsAV
attribute [local go_sem] take_itemsAV drop_itemsAV app_itemsAV app1_itemsAV

theorem c_foliantref19_Diff (gl : List (Nat × AV)) (a b : Dc) (ha : a.tot ≤ 16777000) (hb : b.tot ≤ 16777000) : FnP Tryz.prog (gl) 21 [.agg a.cells, .agg b.cells] fun r => r = .ret (.tup [.sl (itemsAV (diffL a b)), .sl (intsAV (diffG a b))]) := by
  refine FnP.intro Tryz.func21 rfl rfl (by simp [Tryz.ntmps21]) ?_
  simp only [argEnv, Tryz.ntmps21, Tryz.results21]
  have hba := Dc.bulk_tot a
  have hbb := Dc.bulk_tot b
  have hla := ibulk_len a.items
  have hlb := ibulk_len b.items
  have hda : a.bulk = ibulk a.items + a.trailer.bulk := rfl
  have hdb : b.bulk = ibulk b.items + b.trailer.bulk := rfl
  refine AW.rS ?_
  refine AW.seq ?_
  refine AW.rSC ?_
  refine awOps.cons (awGuard.c1 (c_foliantref19_Check _ a (by omega)) ?_)
  refine awOps.rn ?_
  refine awOps.cons (awGuard.cG (fun hg => c_foliantref19_Check _ b (by omega)) ?_)
  refine awOps.rn ?_
  refine AW.c2 ?_ ?_
  · intro h8
    refine AW.rS ?_
    refine AW.rt ?_
    have hd1 : diffL a b = [] := by unfold diffL; rw [if_pos h8]
    have hd2 : diffG a b = [] := by unfold diffG; rw [if_pos h8]
    rw [hd1, hd2]; rfl
  · intro h8
    have hea : docE a = 0 := h8.1
    have heb : docE b = 0 := h8.2
    have hsa := doc_incr hea
    have hsb := doc_incr heb
    rw [diffL_eq hea heb, diffG_eq hea heb]
    refine AW.skip ?_
    refine AW.rS ?_
    refine AW.rS ?_
    refine AW.seq ?_
    refine AW.rS ?_
    refine AW.block ?_
    refine AW.pre (St.le.nilrow 6 8 (by (simp only [go_sem, seval]; try (simp (disch := omega) only [wrap_i64, wrap_u8, wrap_u64, tdiv_nn, tmod_nn, Int.toNat_natCast_add_one, toNat_sub1, Int.toNat_sub, Int.toNat_natCast, intsAV_getD, strsAV_getD, objsAV_getD, itemsAV_getD, intsAV_out, strsAV_out, objsAV_out, itemsAV_out, fillO_length, fillO_set]; try (simp only [go_sem, seval]; try (simp (disch := omega) only [wrap_i64, wrap_u8, wrap_u64, tdiv_nn, tmod_nn, Int.toNat_natCast_add_one, toNat_sub1, Int.toNat_sub, Int.toNat_natCast, intsAV_getD, strsAV_getD, objsAV_getD, itemsAV_getD, intsAV_out, strsAV_out, objsAV_out, itemsAV_out, fillO_length, fillO_set]; try simp only [go_sem, seval])))))) ?_
    refine wk ?_
    refine AW.pre (St.le.nilrow 7 1 (by (simp only [go_sem, seval]; try (simp (disch := omega) only [wrap_i64, wrap_u8, wrap_u64, tdiv_nn, tmod_nn, Int.toNat_natCast_add_one, toNat_sub1, Int.toNat_sub, Int.toNat_natCast, intsAV_getD, strsAV_getD, objsAV_getD, itemsAV_getD, intsAV_out, strsAV_out, objsAV_out, itemsAV_out, fillO_length, fillO_set]; try (simp only [go_sem, seval]; try (simp (disch := omega) only [wrap_i64, wrap_u8, wrap_u64, tdiv_nn, tmod_nn, Int.toNat_natCast_add_one, toNat_sub1, Int.toNat_sub, Int.toNat_natCast, intsAV_getD, strsAV_getD, objsAV_getD, itemsAV_getD, intsAV_out, strsAV_out, objsAV_out, itemsAV_out, fillO_length, fillO_set]; try simp only [go_sem, seval])))))) ?_
    refine wk ?_
    refine AW.lk (S := { i : Nat // i ≤ b.items.length }) [2, 3, 7, 25, 26] (fun s_ => [(6, .row 2 0 ((b.items.take s_.1).filter (diffB a.items)).length), (27, .int .i64 s_.1)]) (fun s_ => [(0, .cells a.cells), (1, .cells b.cells), (2, .row 8 (itemsAV ((b.items.take s_.1).filter (diffB a.items))) true), (3, .row 1 [] true)]) 4 (fun s_ => b.items.length - s_.1) ⟨0, Nat.zero_le _⟩ ?_ ?_
    · refine St.le.vw [0, 1, 2, 3]
    rintro ⟨i, hi⟩
    try dsimp only at hi
    refine AW.rS ?_
    refine AW.seq ?_
    refine AW.c2 ?_ ?_
    · intro h21
      have hgb := ibulk_get (l := b.items) (i := i) (by omega)
      have hfl := filter_take_len b.items i (diffB a.items)
      have hlk := look_there hsa (b.items.getD i Itm.zero).num
      have hlu := look_bulk a.items (b.items.getD i Itm.zero).num
      refine AW.skip ?_
      refine AW.seq ?_
      refine AW.block ?_
      refine AW.rS ?_
      refine AW.rSC ?_
      refine awOps.cons (awGuard.c1 (c_foliantref19_Get _ a (b.items.getD i Itm.zero).num (by omega)) ?_)
      refine awOps.rn ?_
      refine AW.rSC ?_
      refine awOps.cons (awGuard.cG (fun hg => c_foliantref19_SameItem _ ((lookI a.items (b.items.getD i Itm.zero).num).getD Itm.zero) (b.items.getD i Itm.zero) (by omega)) ?_)
      refine awOps.rn ?_
      refine AW.c2 ?_ ?_
      · intro h32
        have hdf : diffB a.items (b.items.getD i Itm.zero) = true := by
          rw [hlk.1, hlk.2] at h32
          simp only [diffB]
          cases ht : ithere a.items (b.items.getD i Itm.zero).num with
          | false => rfl
          | true => rw [ht] at h32; simpa using h32
        have hft := filter_take_yes (l := b.items) (i := i) (p := diffB a.items) (d := Itm.zero) (by omega) hdf
        have hf2 := congrArg List.length hft
        rw [List.length_append, List.length_singleton] at hf2
        refine AW.rL ?_
        refine AW.rL ?_
        refine ⟨⟨i + 1, by omega⟩, ?_, ?_⟩
        · refine St.le.vx [0, 1, 7, 3] ?_
          rw [hft]
        · simp only []; omega
      · intro h32
        have hdf : diffB a.items (b.items.getD i Itm.zero) = false := by
          rw [hlk.1, hlk.2] at h32
          simp only [diffB]
          cases ht : ithere a.items (b.items.getD i Itm.zero).num with
          | false => rw [ht] at h32; simp at h32
          | true => rw [ht] at h32; simpa using h32
        have hft := filter_take_no (l := b.items) (i := i) (p := diffB a.items) (d := Itm.zero) (by omega) hdf
        have hf2 := congrArg List.length hft
        refine AW.skip ?_
        refine AW.rL ?_
        refine ⟨⟨i + 1, by omega⟩, ?_, ?_⟩
        · refine St.le.vx [0, 1, 2, 3] ?_
          rw [hft]
        · simp only []; omega
    · intro h21
      refine AW.exit ?_
      obtain rfl : i = b.items.length := by omega
      rw [List.take_length]
      have hfb := List.length_filter_le (diffB a.items) b.items
      refine AW.seq ?_
      refine AW.rS ?_
      refine AW.block ?_
      refine AW.lk (S := { i : Nat // i ≤ a.items.length }) [3, 6, 52, 53] (fun s_ => [(7, .row 3 0 ((a.items.take s_.1).filter (goneB b.items)).length), (54, .int .i64 s_.1)]) (fun s_ => [(0, .cells a.cells), (1, .cells b.cells), (2, .row 8 (itemsAV (b.items.filter (diffB a.items))) true), (3, .row 1 (intsAV (((a.items.take s_.1).filter (goneB b.items)).map Itm.num)) true)]) 4 (fun s_ => a.items.length - s_.1) ⟨0, Nat.zero_le _⟩ ?_ ?_
      · refine St.le.vw [0, 1, 2, 3]
      rintro ⟨j, hj⟩
      try dsimp only at hj
      refine AW.rS ?_
      refine AW.seq ?_
      refine AW.c2 ?_ ?_
      · intro h46
        have hfg := filter_take_len a.items j (goneB b.items)
        have hlk := look_there hsb (a.items.getD j Itm.zero).num
        refine AW.skip ?_
        refine AW.seq ?_
        refine AW.block ?_
        refine AW.rS ?_
        refine AW.rSC ?_
        refine awOps.cons (awGuard.c1 (c_foliantref19_Get _ b (a.items.getD j Itm.zero).num (by omega)) ?_)
        refine awOps.rn ?_
        refine AW.rS ?_
        refine AW.c2 ?_ ?_
        · intro h55
          have hdf : goneB b.items (a.items.getD j Itm.zero) = true := by rw [hlk.1] at h55; simp only [goneB, h55]; rfl
          have hft := filter_take_yes (l := a.items) (i := j) (p := goneB b.items) (d := Itm.zero) (by omega) hdf
          have hf2 := congrArg List.length hft
          rw [List.length_append, List.length_singleton] at hf2
          refine AW.rL ?_
          refine AW.rL ?_
          refine ⟨⟨j + 1, by omega⟩, ?_, ?_⟩
          · refine St.le.vx [0, 1, 2, 7] ?_
            rw [hft]; simp [intsAV]; rw [List.take_of_length_le (by simp)]
          · simp only []; omega
        · intro h55
          have hdf : goneB b.items (a.items.getD j Itm.zero) = false := by rw [hlk.1] at h55; simp only [goneB, h55]; rfl
          have hft := filter_take_no (l := a.items) (i := j) (p := goneB b.items) (d := Itm.zero) (by omega) hdf
          have hf2 := congrArg List.length hft
          refine AW.skip ?_
          refine AW.rL ?_
          refine ⟨⟨j + 1, by omega⟩, ?_, ?_⟩
          · refine St.le.vx [0, 1, 2, 3] ?_
            rw [hft]
          · simp only []; omega
      · intro h46
        refine AW.exit ?_
        obtain rfl : j = a.items.length := by omega
        rw [List.take_length]
        refine AW.rS ?_
        refine AW.rt ?_
        refine ⟨by rw [List.length_map]; exact Nat.le_refl _, ?_⟩
        rw [List.take_of_length_le (by simp [intsAV])]
theorem c_foliantref19_Apply (gl : List (Nat × AV)) (d : Dc) (l : List Itm) (ns : List Int) (h : d.tot + itots l ≤ 16777000) (hns : ns.length ≤ 16777000) : FnP Tryz.prog (gl) 18 [.agg d.cells, .sl (itemsAV l), .sl (intsAV ns)] fun r => r = .ret (.tup [.agg (applyD d l ns).cells, .int .i64 (applyE d l ns)]) := by
  refine FnP.intro Tryz.func18 rfl rfl (by simp [Tryz.ntmps18]) ?_
  simp only [argEnv, Tryz.ntmps18, Tryz.results18]
  have hlen := itots_len d.items
  have hll := itots_len l
  have hbt := ibulk_tot d.items
  have hdt : d.tot = itots d.items + d.trailer.tot := rfl
  have hbd := Pob.bulk_tot d.trailer
  refine AW.rS ?_
  refine AW.seq ?_
  refine AW.rSC ?_
  refine awOps.cons (awGuard.c1 (c_foliantref19_Check _ d (by omega)) ?_)
  refine awOps.rn ?_
  refine AW.rS ?_
  refine AW.c2 ?_ ?_
  · intro h7
    refine AW.rS ?_
    refine AW.rt ?_
    rw [(apply_doc h7).1, (apply_doc h7).2]; rfl
  · intro h7
    have hs0 := doc_incr h7
    refine AW.skip ?_
    refine AW.seq ?_
    refine AW.rS ?_
    refine AW.block ?_
    refine AW.lk (S := { p : Nat × List Itm // p.1 ≤ ns.length ∧ incrN p.2 ∧ itots p.2 ≤ itots d.items ∧ applyT d.items ns = applyT p.2 (ns.drop p.1) }) [1, 3, 6, 22, 23] (fun s_ => [(24, .int .i64 s_.1.1)]) (fun s_ => [(0, .cells [.sl (itemsAV s_.1.2), .int .i64 d.trailer.kind, .int .i64 d.trailer.num, .int .i64 d.trailer.gen, .str d.trailer.str, .sl (strsAV d.trailer.keys), .sl (objsAV d.trailer.kids)]), (1, .cells [.raw (.slice none 0 0), .int .i64 0, .int .i64 0, .int .i64 0, .str [], .raw (.slice none 0 0), .raw (.slice none 0 0)])]) 2 (fun s_ => ns.length - s_.1.1) ⟨(0, d.items), Nat.zero_le _, hs0, Nat.le_refl _, rfl⟩ ?_ ?_
    · refine St.le.vw [0, 1]
    rintro ⟨⟨i, x⟩, hi, hx, hxb, hxs⟩
    try dsimp only at hi
    try dsimp only at hx
    try dsimp only at hxb
    try dsimp only at hxs
    refine AW.rS ?_
    refine AW.seq ?_
    refine AW.c2 ?_ ?_
    · intro h18
      have hlx := ibulk_tot x
      have htb := itots_take x (ns.getD i 0)
      have hlk := look_there hx (ns.getD i 0)
      refine AW.skip ?_
      refine AW.seq ?_
      refine AW.block ?_
      refine AW.rS ?_
      refine AW.seq ?_
      refine AW.rSC ?_
      refine awOps.cons (awGuard.c1 (c_foliantref19_Get _ ⟨x, d.trailer⟩ (ns.getD i 0) (by simp only [Dc.bulk]; omega)) ?_)
      refine awOps.rn ?_
      refine AW.rS ?_
      refine AW.c2 ?_ ?_
      · intro h28
        refine AW.rS ?_
        refine AW.rt ?_
        have hn : applyT d.items ns = none := by rw [hxs, applyT_drop h18, if_neg (by rw [← hlk.1, h28]; simp)]
        rw [(apply_none h7 hn).1, (apply_none h7 hn).2]; rfl
      · intro h28
        refine AW.skip ?_
        refine AW.rLC ?_
        refine awOps.cons (awGuard.c1 (c_ref_takeI _ x (ns.getD i 0) (by omega) hx) ?_)
        refine awOps.rn ?_
        refine AW.rL ?_
        refine ⟨⟨(i + 1, takeI x (ns.getD i 0)), by dsimp only; omega, takeI_incr hx, by dsimp only; omega, by rw [hxs, applyT_drop h18, if_pos (by rw [← hlk.1, h28])]⟩, ?_, ?_⟩
        · refine St.le.vw [0, 1]
        · simp only []; omega
    · intro h18
      refine AW.exit ?_
      have hT : applyT d.items ns = some x := by rw [hxs, List.drop_of_length_le (by omega), applyT]
      refine AW.seq ?_
      refine AW.rS ?_
      refine AW.block ?_
      refine AW.lk (S := { p : Nat × List Itm // p.1 ≤ l.length ∧ itots p.2 ≤ itots d.items + itots (l.take p.1) ∧ p.2 = (l.take p.1).foldl layI x ∧ aloneL l = aloneL (l.drop p.1) }) [3, 6, 43, 44] (fun s_ => [(45, .int .i64 s_.1.1)]) (fun s_ => [(0, .cells [.sl (itemsAV s_.1.2), .int .i64 d.trailer.kind, .int .i64 d.trailer.num, .int .i64 d.trailer.gen, .str d.trailer.str, .sl (strsAV d.trailer.keys), .sl (objsAV d.trailer.kids)]), (1, .cells [.raw (.slice none 0 0), .int .i64 0, .int .i64 0, .int .i64 0, .str [], .raw (.slice none 0 0), .raw (.slice none 0 0)])]) 2 (fun s_ => l.length - s_.1.1) ⟨(0, x), Nat.zero_le _, by dsimp only; omega, rfl, rfl⟩ ?_ ?_
      · refine St.le.vw [0, 1]
      rintro ⟨⟨k, y⟩, hk, hyb, hyf, hya⟩
      try dsimp only at hk
      try dsimp only at hyb
      try dsimp only at hyf
      try dsimp only at hya
      refine AW.rS ?_
      refine AW.seq ?_
      refine AW.c2 ?_ ?_
      · intro h45
        have hgb := itots_get (l := l) (i := k) (by omega)
        have hly := ibulk_tot y
        have hit := itots_takeS (l := l) (i := k) (by omega)
        have hil := itots_takele l (k + 1)
        have hlb := itots_lay y (l.getD k Itm.zero)
        refine AW.skip ?_
        refine AW.seq ?_
        refine AW.block ?_
        refine AW.rS ?_
        refine AW.seq ?_
        refine AW.rSC ?_
        refine awOps.cons (awGuard.c1 (c_foliantref19_item _ (l.getD k Itm.zero) (by omega)) ?_)
        refine awOps.rn ?_
        refine AW.rS ?_
        refine AW.c2 ?_ ?_
        · intro h55
          refine AW.rS ?_
          refine AW.rt ?_
          have hn : aloneL l = aloneE (l.getD k Itm.zero) := by rw [hya, aloneL_drop h45, if_pos h55]
          have ha := apply_alone h7 hT (by rw [hn]; exact h55)
          rw [ha.1, ha.2, hn]; rfl
        · intro h55
          refine AW.skip ?_
          refine AW.rLC ?_
          refine awOps.cons (awGuard.c1 (c_foliantref19_lay _ y (l.getD k Itm.zero) (by omega)) ?_)
          refine awOps.rn ?_
          refine AW.rL ?_
          refine ⟨⟨(k + 1, layI y (l.getD k Itm.zero)), by dsimp only; omega, by dsimp only; omega, by rw [foldl_take (d := Itm.zero) h45, ← hyf], by rw [hya, aloneL_drop h45, if_neg (by simpa using h55)]⟩, ?_, ?_⟩
          · refine St.le.vw [0, 1]
          · simp only []; omega
      · intro h45
        refine AW.exit ?_
        have hk' : k = l.length := by omega
        subst hk'
        have hil := itots_takele l l.length
        rw [List.take_length] at hyf
        rw [List.drop_length, aloneL] at hya
        have ha := apply_ok h7 hT hya
        rw [← hyf] at ha
        refine AW.rSC ?_
        refine awOps.cons (awGuard.c1 (c_foliantref19_right _ ⟨y, d.trailer⟩ (by simp only [Dc.tot]; omega)) ?_)
        refine awOps.rn ?_
        refine AW.rt ?_
        rw [ha.1, ha.2]
theorem c_foliantref19_Trailer (gl : List (Nat × AV)) (o : Pob) (h : o.tot ≤ 16777000) : FnP Tryz.prog (gl) 36 [.agg o.cells] fun r => r = .ret (.agg (trailerO o).cells) := by
  refine FnP.intro Tryz.func36 rfl rfl (by simp [Tryz.ntmps36]) ?_
  simp only [argEnv, Tryz.ntmps36, Tryz.results36]
  have hb := Pob.bulk_tot o
  have hbe := Pob.bulk_eq o
  refine AW.rS ?_
  refine AW.rS ?_
  refine AW.seq ?_
  refine AW.rSC ?_
  refine awOps.cons (awGuard.cG (fun hg => c_foliantref05_Check _ o (by omega)) ?_)
  refine awOps.rn ?_
  refine AW.c2 ?_ ?_
  · intro h7
    refine AW.rS ?_
    refine AW.rt ?_
    have hb : trailerB o = false := by simp only [trailerB, keyedB, Bool.and_eq_false_iff, Bool.or_eq_false_iff, decide_eq_false_iff_not]; omega
    rw [trailerO, if_neg (by rw [hb]; simp)]; rfl
  · intro h7
    have hk : keyedB o.kind = true := by simp only [keyedB]; simp; exact h7.1
    have hc : chk o 1 = 0 := h7.2
    have hkl := (kvOk_of_chk hc hk).2
    have hre := trailer_ref hc hk
    refine AW.skip ?_
    refine AW.seq ?_
    refine AW.rS ?_
    refine AW.block ?_
    refine AW.pre (St.le.nilcell 2 4 1 (by (simp only [go_sem, seval]; try (simp (disch := omega) only [wrap_i64, wrap_u8, wrap_u64, tdiv_nn, tmod_nn, Int.toNat_natCast_add_one, toNat_sub1, Int.toNat_sub, Int.toNat_natCast, intsAV_getD, strsAV_getD, objsAV_getD, itemsAV_getD, intsAV_out, strsAV_out, objsAV_out, itemsAV_out, fillO_length, fillO_set]; try (simp only [go_sem, seval]; try (simp (disch := omega) only [wrap_i64, wrap_u8, wrap_u64, tdiv_nn, tmod_nn, Int.toNat_natCast_add_one, toNat_sub1, Int.toNat_sub, Int.toNat_natCast, intsAV_getD, strsAV_getD, objsAV_getD, itemsAV_getD, intsAV_out, strsAV_out, objsAV_out, itemsAV_out, fillO_length, fillO_set]; try simp only [go_sem, seval])))); exact rfl) (by exact rfl)) ?_
    refine wk ?_
    refine AW.pre (St.le.nilcell 2 5 6 (by (simp only [go_sem, seval]; try (simp (disch := omega) only [wrap_i64, wrap_u8, wrap_u64, tdiv_nn, tmod_nn, Int.toNat_natCast_add_one, toNat_sub1, Int.toNat_sub, Int.toNat_natCast, intsAV_getD, strsAV_getD, objsAV_getD, itemsAV_getD, intsAV_out, strsAV_out, objsAV_out, itemsAV_out, fillO_length, fillO_set]; try (simp only [go_sem, seval]; try (simp (disch := omega) only [wrap_i64, wrap_u8, wrap_u64, tdiv_nn, tmod_nn, Int.toNat_natCast_add_one, toNat_sub1, Int.toNat_sub, Int.toNat_natCast, intsAV_getD, strsAV_getD, objsAV_getD, itemsAV_getD, intsAV_out, strsAV_out, objsAV_out, itemsAV_out, fillO_length, fillO_set]; try simp only [go_sem, seval])))); exact rfl) (by exact rfl)) ?_
    refine wk ?_
    refine AW.lk (S := { i : Nat // i ≤ o.keys.length }) [1, 2, 3, 22, 23] (fun s_ => [(24, .int .i64 s_.1)]) (fun s_ => [(0, .cells o.cells), (1, .cells [.int .i64 0, .int .i64 0, .int .i64 0, .str [], .raw (.slice none 0 0), .raw (.slice none 0 0)]), (2, .cells [.int .i64 7, .int .i64 0, .int .i64 0, .str [], .row 3 0 (trP o s_.1).length, .row 4 0 (trP o s_.1).length]), (3, .row 1 (strsAV ((trP o s_.1).map (·.1))) true), (4, .row 6 (objsAV ((trP o s_.1).map (·.2))) true)]) 5 (fun s_ => o.keys.length - s_.1) ⟨0, Nat.zero_le _⟩ ?_ ?_
    · refine St.le.vw [0, 1, 2, 3, 4]
    rintro ⟨i, hi⟩
    try dsimp only at hi
    refine AW.rS ?_
    refine AW.seq ?_
    refine AW.c2 ?_ ?_
    · intro h18
      have htl := trP_len o i
      refine AW.skip ?_
      refine AW.seq ?_
      refine AW.block ?_
      refine AW.rS ?_
      refine AW.rS ?_
      refine AW.c2 ?_ ?_
      · intro h24
        have hty := trP_yes (o := o) (i := i) ((trail_idx _).2 (by rcases h24 with (e | e) | e; exact .inl e; exact .inr (.inl e); exact .inr (.inr e)))
        refine AW.rS ?_
        refine AW.tGL (σf := ?sf9) (.take 0 0 (.take 2 0 (.take 4 0 (.fork 1 (.fork 3 (.take 5 0 (.take 6 0 (.fork 7 (.fork 8 (.take 9 0 (.fork 10 .done .stop)) .stop) .stop))) .stop) (.fork 3 (.take 5 0 (.take 6 0 (.fork 1 (.fork 7 (.fork 8 (.take 9 0 (.fork 10 .done .stop)) .stop) .stop) (.fork 7 (.fork 1 (.fork 8 (.take 9 0 (.fork 10 .done .stop)) .stop) .stop) .stop)))) .stop))))) ?tree9 ?rest9
        case tree9 =>
          refine awTree.tk ?_
          refine awTree.tk ?_
          refine awTree.tk ?_
          refine awTree.fA ?_ ?_
          · refine awTree.fA ?_ ?_
            · refine awTree.tk ?_
              refine awTree.tk ?_
              refine awTree.fA ?_ ?_
              · refine awTree.fA ?_ ?_
                · refine awTree.tk ?_
                  refine awTree.fA ?_ ?_
                  · exact awTree.dn
                  · exact trivial
                · exact trivial
              · exact trivial
            · exact trivial
          · refine awTree.fA ?_ ?_
            · refine awTree.tk ?_
              refine awTree.tk ?_
              refine awTree.fA ?_ ?_
              · refine awTree.fA ?_ ?_
                · refine awTree.fA ?_ ?_
                  · refine awTree.tk ?_
                    refine awTree.fA ?_ ?_
                    · exact awTree.dn
                    · exact trivial
                  · exact trivial
                · exact trivial
              · refine awTree.fA ?_ ?_
                · refine awTree.fA ?_ ?_
                  · refine awTree.fA ?_ ?_
                    · refine awTree.tk ?_
                      refine awTree.fA ?_ ?_
                      · exact awTree.dn
                      · exact trivial
                    · exact trivial
                  · exact trivial
                · exact trivial
            · exact trivial
        refine AW.rL ?_
        refine ⟨⟨i + 1, by omega⟩, ?_, ?_⟩
        · refine St.le.vx [0, 1, 2, 6, 8] ?_
          rw [hty, List.length_append, List.map_append, List.map_append, List.take_of_length_le (by simp), List.take_of_length_le (by simp)]; exact ⟨rfl, rfl, rfl⟩
        · simp only []; omega
      · intro h24
        have hty := trP_no (o := o) (i := i) (fun hh => by have := (trail_idx _).1 hh; rcases this with e | e | e; exact h24.1.1 e; exact h24.1.2 e; exact h24.2 e)
        refine AW.skip ?_
        refine AW.rL ?_
        refine ⟨⟨i + 1, by omega⟩, ?_, ?_⟩
        · refine St.le.vx [0, 1, 2, 3, 4] ?_
          rw [hty]; exact ⟨rfl, rfl, rfl⟩
        · simp only []; omega
    · intro h18
      refine AW.exit ?_
      refine AW.rS ?_
      refine AW.rt ?_
      obtain rfl : i = o.keys.length := by omega
      rw [← hre]
      refine ⟨⟨by simp, by simp⟩, ?_⟩
      rw [List.take_of_length_le (by simp), List.take_of_length_le (by simp)]
      try rfl
end Go.Proofs

namespace Go.Proofs
open Go Aw
set_option linter.unusedSimpArgs false
set_option linter.unusedVariables false
set_option maxRecDepth 100000
set_option maxHeartbeats 4000000

theorem lv1 : docE leastD = 0 := by decide +kernel
theorem lv2 : docE Dc.zero = 10 := by decide +kernel
theorem lv3 : lookI leastD.items 5 = some ⟨5, 1, .mk 2 7 0 [] [] []⟩ := by decide +kernel
theorem lv4 : lookI leastD.items 4 = none := by decide +kernel
theorem lv5 : (putO leastD lvI3).items.length = 3 := by decide +kernel
theorem lv6 : ((putO leastD lvI3).items.getD 1 Itm.zero).num = 3 := by decide +kernel
theorem lv7 : putE leastD lvI3 = 0 := by decide +kernel
theorem lv8 : putE leastD lvI2 = 22 := by decide +kernel
theorem lv9 : putE leastD lvI9 = 10 := by decide +kernel
theorem lv10 : putE leastD Itm.zero = 2 := by decide +kernel
theorem lv11 : putE leastD lvX3 = 10 := by decide +kernel
theorem lv12 : dropD lvA 3 = leastD := by decide +kernel
theorem lv13 : dropE lvA 3 = 0 := by decide +kernel
theorem lv14 : dropE leastD 3 = 8 := by decide +kernel
theorem lv15 : dropE leastD 2 = 22 := by decide +kernel
theorem lv16 : freeN leastD = 6 := by decide +kernel
theorem lv17 : freeE leastD = 0 := by decide +kernel
theorem lv18 : addN leastD lvN = 6 := by decide +kernel
theorem lv19 : addE leastD lvN = 0 := by decide +kernel
theorem lv20 : (addO leastD lvN).items.length = 3 := by decide +kernel
theorem lv21 : freeE Dc.zero = 10 := by decide +kernel
theorem lv22 : (diffL lvA lvC).length = 1 := by decide +kernel
theorem lv23 : ((diffL lvA lvC).getD 0 Itm.zero).num = 6 := by decide +kernel
theorem lv24 : (diffG lvA lvC).length = 1 := by decide +kernel
theorem lv25 : (diffG lvA lvC).getD 0 0 = 3 := by decide +kernel
theorem lv26 : applyD lvA (diffL lvA lvC) (diffG lvA lvC) = lvC := by decide +kernel
theorem lv27 : applyE lvA (diffL lvA lvC) (diffG lvA lvC) = 0 := by decide +kernel
theorem lv28 : (pathO leastD (refO 2 0) [[65]]).num = 7 := by decide +kernel
theorem lv29 : (followO leastD (refO 5 0)).kind = 0 := by decide +kernel
theorem lv30 : (trailerO lvT).keys.length = 1 := by decide +kernel
theorem lv31 : (trailerO lvT).keys.getD 0 [] = [82, 111, 111, 116] := by decide +kernel
theorem lv32 : ¬ lvA = leastD := by decide +kernel
theorem c_law19_lives (gl : List (Nat × AV))  : FnP Tryz.prog (gl) 8 [] fun r => r = .ret (.bool true) := by
  refine FnP.intro Tryz.func8 rfl rfl (by simp [Tryz.ntmps8]) ?_
  simp only [argEnv, Tryz.ntmps8, Tryz.results8]
  have hal := lv5
  have hcl := lv20
  have hdl := lv22
  have hdg := lv24
  have htk := lv30
  refine AW.rS ?_
  refine AW.trim [] ?_
  refine AW.rSC ?_
  refine awOps.cons (awGuard.c1 (c_foliantlaw19_Least ..) ?_)
  refine awOps.rn ?_
  refine AW.trim [1] ?_
  refine AW.rSC ?_
  refine awOps.cons (awGuard.c1 (c_docs_Get _ leastD 5 (by decide +kernel)) ?_)
  refine awOps.rn ?_
  refine AW.trim [1, 2, 3] ?_
  refine AW.rSC ?_
  refine awOps.cons (awGuard.c1 (c_docs_Get _ leastD 4 (by decide +kernel)) ?_)
  refine awOps.rn ?_
  refine AW.trim [1, 2, 3, 5] ?_
  refine AW.rSC ?_
  refine awOps.cons (awGuard.c1 (c_docs_Put _ leastD lvI3 (by decide +kernel)) ?_)
  refine awOps.rn ?_
  refine AW.trim [1, 2, 3, 5, 6, 7] ?_
  refine AW.rSC ?_
  refine awOps.cons (awGuard.c1 (c_docs_Put _ leastD lvI2 (by decide +kernel)) ?_)
  refine awOps.rn ?_
  refine AW.trim [1, 2, 3, 5, 6, 7, 9] ?_
  refine AW.rSC ?_
  refine awOps.cons (awGuard.c1 (c_docs_Put _ leastD lvI9 (by decide +kernel)) ?_)
  refine awOps.rn ?_
  refine AW.trim [1, 2, 3, 5, 6, 7, 9, 11] ?_
  refine AW.rSC ?_
  refine awOps.cons (awGuard.c1 (c_docs_Put _ leastD Itm.zero (by decide +kernel)) ?_)
  refine awOps.rn ?_
  refine AW.trim [1, 2, 3, 5, 6, 7, 9, 11, 13] ?_
  refine AW.rSC ?_
  refine awOps.cons (awGuard.c1 (c_docs_Put _ leastD lvX3 (by decide +kernel)) ?_)
  refine awOps.rn ?_
  refine AW.trim [1, 2, 3, 5, 6, 7, 9, 11, 13, 15] ?_
  refine AW.rSC ?_
  refine awOps.cons (awGuard.c1 (c_docs_Drop _ lvA 3 (by decide +kernel)) ?_)
  refine awOps.rn ?_
  refine AW.trim [1, 2, 3, 5, 6, 7, 9, 11, 13, 15, 16, 17] ?_
  refine AW.rSC ?_
  refine awOps.cons (awGuard.c1 (c_docs_Drop _ leastD 3 (by decide +kernel)) ?_)
  refine awOps.rn ?_
  refine AW.trim [1, 2, 3, 5, 6, 7, 9, 11, 13, 15, 16, 17, 19] ?_
  refine AW.rSC ?_
  refine awOps.cons (awGuard.c1 (c_docs_Drop _ leastD 2 (by decide +kernel)) ?_)
  refine awOps.rn ?_
  refine AW.trim [1, 2, 3, 5, 6, 7, 9, 11, 13, 15, 16, 17, 19, 21] ?_
  refine AW.rSC ?_
  refine awOps.cons (awGuard.c1 (c_docs_Free _ leastD (by decide +kernel)) ?_)
  refine awOps.rn ?_
  refine AW.trim [1, 2, 3, 5, 6, 7, 9, 11, 13, 15, 16, 17, 19, 21, 22, 23] ?_
  refine AW.rSC ?_
  refine awOps.cons (awGuard.c1 (c_docs_Add _ leastD lvN (by decide +kernel)) ?_)
  refine awOps.rn ?_
  refine AW.trim [1, 2, 3, 5, 6, 7, 9, 11, 13, 15, 16, 17, 19, 21, 22, 23, 24, 25, 26] ?_
  refine AW.rSC ?_
  refine awOps.cons (awGuard.c1 (c_docs_Free _ Dc.zero (by decide +kernel)) ?_)
  refine awOps.rn ?_
  refine AW.trim [1, 2, 3, 5, 6, 7, 9, 11, 13, 15, 16, 17, 19, 21, 22, 23, 24, 25, 26, 28] ?_
  refine AW.rSC ?_
  refine awOps.cons (awGuard.c1 (c_docs_Diff _ lvA lvC (by decide +kernel) (by decide +kernel)) ?_)
  refine awOps.rn ?_
  refine AW.trim [1, 2, 3, 5, 6, 7, 9, 11, 13, 15, 16, 17, 19, 21, 22, 23, 24, 25, 26, 28, 29, 30] ?_
  refine AW.rSC ?_
  refine awOps.cons (awGuard.c1 (c_docs_Apply _ lvA (diffL lvA lvC) (diffG lvA lvC) (by decide +kernel) (by decide +kernel)) ?_)
  refine awOps.rn ?_
  refine AW.trim [1, 2, 3, 5, 6, 7, 9, 11, 13, 15, 16, 17, 19, 21, 22, 23, 24, 25, 26, 28, 29, 30, 31, 32] ?_
  refine AW.rSC ?_
  refine awOps.cons (awGuard.c1 (c_docs_Path _ leastD (refO 2 0) [[65]] (by decide +kernel) (by decide +kernel) (by decide +kernel)) ?_)
  refine awOps.rn ?_
  refine AW.trim [1, 2, 3, 5, 6, 7, 9, 11, 13, 15, 16, 17, 19, 21, 22, 23, 24, 25, 26, 28, 29, 30, 31, 32, 33] ?_
  refine AW.seq ?_
  refine AW.rSC ?_
  refine awOps.cons (awGuard.c1 (c_docs_Check _ leastD (by decide +kernel)) ?_)
  refine awOps.rn ?_
  refine awOps.cons (awGuard.gT ?_)
  refine awOps.rn ?_
  refine awOps.cons (awGuard.cG (fun hg => c_docs_Check _ Dc.zero (by decide +kernel)) ?_)
  refine awOps.rn ?_
  refine awOps.cons (awGuard.cG (fun hg => c_docs_Same _ (dropD lvA 3) leastD (by decide +kernel)) ?_)
  refine awOps.rn ?_
  refine AW.trim [1, 6, 22, 23, 24, 25, 26, 28, 29, 30, 31, 32, 33, 205] ?_
  refine AW.c2 ?_ ?_
  · intro h61
    exfalso
    simp only [lv1, lv2, lv3, lv4, lv5, lv6, lv7, lv8, lv9, lv10, lv11, lv12, lv13, lv14, lv15] at h61
    revert h61
    decide
  · intro h61
    refine AW.skip ?_
    refine AW.seq ?_
    refine AW.rSC ?_
    refine awOps.cons (awGuard.cG (fun hg => c_docs_Same _ (applyD lvA (diffL lvA lvC) (diffG lvA lvC)) lvC (by decide +kernel)) ?_)
    refine awOps.rn ?_
    refine AW.trim [1, 6, 267] ?_
    refine AW.c2 ?_ ?_
    · intro h70
      exfalso
      simp only [lv16, lv17, lv18, lv19, lv20, lv21, lv22, lv23, lv24, lv25, lv26, lv27, lv28] at h70
      revert h70
      decide
    · intro h70
      refine AW.skip ?_
      refine AW.rSC ?_
      refine awOps.cons (awGuard.c1 (c_docs_Follow _ leastD (refO 5 0) (by decide +kernel) (by decide +kernel)) ?_)
      refine awOps.rn ?_
      refine AW.trim [1, 6, 34] ?_
      refine AW.rSC ?_
      refine awOps.cons (awGuard.c1 (c_docs_Trailer _ lvT (by decide +kernel)) ?_)
      refine awOps.rn ?_
      refine AW.trim [1, 6, 34, 35] ?_
      refine AW.rSC ?_
      refine awOps.cons (awGuard.cG (fun hg => c_docs_Same _ lvA leastD (by decide +kernel)) ?_)
      refine awOps.rn ?_
      refine AW.trim [0] ?_
      refine AW.rt ?_
      rw [lv29, lv30, lv31, decide_eq_false lv32]
      rfl
end Go.Proofs

namespace Go.Proofs
open Go Aw
set_option linter.unusedSimpArgs false
set_option linter.unusedVariables false
set_option maxRecDepth 100000
set_option maxHeartbeats 2000000
theorem intsAV_all (l : List Int) : (intsAV l).take l.length = intsAV l := by
  rw [List.take_of_length_le (by simp [intsAV])]
attribute [local go_sem] intsAV_all
theorem takeInt_succ {a b : List Int} {i : Nat} (h : i < a.length) (hl : a.length = b.length) (he : a.take i = b.take i) (hg : a.getD i 0 = b.getD i 0) : a.take (i + 1) = b.take (i + 1) := by
  rw [List.take_add_one, List.take_add_one, he]
  rw [List.getD, List.getD] at hg
  rw [List.getElem?_eq_getElem h, List.getElem?_eq_getElem (show i < b.length by omega)] at hg ⊢
  simp only [Option.getD_some] at hg
  rw [hg]
theorem c_foliantref05_Ints (gl : List (Nat × AV)) (a b : List Int) (ha : a.length ≤ 16777216 := by first | omega | exact u8_le _ | assumption | (simp; done) | (simp; omega)) : FnP Tryz.prog (gl) 25 [.sl (intsAV a), .sl (intsAV b)] fun r => r = .ret (.bool (decide (a = b))) := by
  refine FnP.intro Tryz.func25 rfl rfl (by simp [Tryz.ntmps25]) ?_
  simp only [argEnv, Tryz.ntmps25, Tryz.results25]
  refine AW.rS ?_
  refine AW.seq ?_
  refine AW.rS ?_
  refine AW.c2 ?_ ?_
  · intro h4
    refine AW.rS ?_
    refine AW.rt ?_
    rw [decide_eq_false (fun e => h4 (by rw [e]))]
  · intro h4
    refine AW.skip ?_
    refine AW.seq ?_
    refine AW.rS ?_
    refine AW.block ?_
    refine AW.lk (S := { i : Nat // i ≤ a.length ∧ a.take i = b.take i }) [0, 1, 12] (fun s_ => [(13, .int .i64 s_.1)]) (fun s_ => []) 0 (fun s_ => a.length - s_.1) ⟨0, Nat.zero_le _, rfl⟩ ?_ ?_
    · refine St.le.vw []
    rintro ⟨i, hi, hs⟩
    try dsimp only at hi
    try dsimp only at hs
    refine AW.rS ?_
    refine AW.seq ?_
    refine AW.c2 ?_ ?_
    · intro h15
      refine AW.skip ?_
      refine AW.seq ?_
      refine AW.block ?_
      refine AW.rS ?_
      refine AW.dS [(0, 0), (1, 0), (2, 1), (3, 1), (4, 0), (5, 0), (6, 1), (7, 1), (8, 0)] ?_
      refine AW.c2 ?_ ?_
      · intro h21
        refine AW.rS ?_
        refine AW.rt ?_
        rw [decide_eq_false (fun e => h21 (by rw [e]))]
      · intro h21
        refine AW.skip ?_
        refine AW.rL ?_
        refine ⟨⟨i + 1, by omega, takeInt_succ h15 (by omega) hs h21⟩, ?_, ?_⟩
        · refine St.le.vw []
        · simp only []; omega
    · intro h15
      refine AW.exit ?_
      refine AW.rS ?_
      refine AW.rt ?_
      rw [List.take_of_length_le (by omega), List.take_of_length_le (by omega)] at hs
      simp [hs]
theorem setO_bulk (o : Pob) (key : List UInt8) (v : Pob) : (setO o key v).bulk ≤ o.bulk + v.bulk + 2 := by
  unfold setO
  split
  · have : Pob.null.bulk = 1 := rfl
    omega
  · split
    · have := dropO_bulk o key; omega
    · exact Pob.withK_bulk o key v
end Go.Proofs

namespace Go.Proofs
open Go Aw
set_option linter.unusedSimpArgs false
set_option linter.unusedVariables false
set_option maxRecDepth 100000
set_option maxHeartbeats 4000000

theorem foldl_lay_bulk : ∀ (l x : List Itm), ibulk (l.foldl layI x) ≤ ibulk x + ibulk l
  | [], x => by simp [ibulk]
  | i :: l, x => by
    have h1 := foldl_lay_bulk l (layI x i)
    have h2 := layI_bulk x i
    rw [List.foldl_cons, ibulk_cons]
    omega
theorem applyT_bulk : ∀ (ns : List Int) (l x : List Itm), applyT l ns = some x → ibulk x ≤ ibulk l
  | [], l, x, h => by simp only [applyT, Option.some.injEq] at h; subst h; omega
  | n :: ns, l, x, h => by
    simp only [applyT] at h
    split at h
    · have h1 := applyT_bulk ns _ x h
      have h2 := takeI_bulk l n
      omega
    · cases h
theorem applyD_bulk (d : Dc) (l : List Itm) (ns : List Int) : (applyD d l ns).bulk ≤ d.bulk + ibulk l + 1 := by
  have h0 := zero_bulk
  unfold applyD
  split
  · omega
  · split
    · omega
    · rename_i x hx
      have h1 := applyT_bulk ns _ x hx
      have h2 := foldl_lay_bulk l x
      simp only [Dc.bulk]
      omega
theorem bulks_map_get (o : Pob) : ∀ l : List (List UInt8), bulks (l.map (getO o)) ≤ l.length * o.bulk
  | [] => by simp [bulks]
  | k :: l => by
    have h1 := bulks_map_get o l
    have h2 := get_bulk o k
    rw [List.map_cons, bulks, List.length_cons, Nat.succ_mul]
    omega
theorem trailerO_bulk (o : Pob) : (trailerO o).bulk ≤ 7 + 3 * o.bulk := by
  unfold trailerO
  split
  · rw [Pob.bulk_eq]
    simp only [Pob.keys_mk, Pob.kids_mk, List.length_map]
    have h1 : (trailerK o 3).length ≤ 3 := by
      unfold trailerK
      exact Nat.le_trans (List.length_filter_le _ _) (by decide)
    have h2 := bulks_map_get o (trailerK o 3)
    have h3 : (trailerK o 3).length * o.bulk ≤ 3 * o.bulk := Nat.mul_le_mul_right _ h1
    omega
  · have h1 : (Pob.mk 7 0 0 [] [] []).bulk = 1 := rfl
    rw [h1]
    omega
theorem c_law_DocsTell (gl : List (Nat × AV)) (d e : Dc) (i : Itm) (n : Int) (ks : List (List UInt8)) (ns : List Int) (hd : d.tot ≤ 1048576) (he : e.tot ≤ 1048576) (hi : i.obj.tot ≤ 1048576) (hk : ks.length ≤ 1048576) (hn : ns.length ≤ 1048576) : FnP Tryz.prog (gl) 3 [.agg d.cells, .agg e.cells, .agg i.cells, .int .i64 n, .sl (strsAV ks), .sl (intsAV ns)] fun r => r = .ret (.bool true) := by
  refine FnP.intro Tryz.func3 rfl rfl (by simp [Tryz.ntmps3]) ?_
  simp only [argEnv, Tryz.ntmps3, Tryz.results3]
  have h1 := Dc.bulk_tot d
  have h2 := Dc.size_tot d
  have h3 := Dc.bulk_tot e
  have h4 := Dc.size_tot e
  have h5 := Pob.bulk_tot i.obj
  have h6 := Pob.psize_tot i.obj
  have h7 : i.tot = i.obj.tot + 3 := rfl
  have h8 : e.tot = itots e.items + e.trailer.tot := rfl
  have h9 : e.bulk = ibulk e.items + e.trailer.bulk := rfl
  have hb1 := putO_bulk d i
  have hb2 := dropD_bulk d n
  have hb3 := addO_bulk d i.obj
  have hb4 := applyD_bulk d e.items ns
  have hb5 := look_bulk d.items n
  have hb6 := diffL_bulk d e
  have hb7 := diffG_len d e
  have hb8 : d.bulk = ibulk d.items + d.trailer.bulk := rfl
  have hb9 := ibulk_len d.items
  have hc1 : d.bulk ≤ 16777216 := by omega
  have hc2 : i.obj.bulk ≤ 16777216 := by omega
  have hc3 := pathO_bulk hc1 hc2 ks
  have hc4 := follow_bulk hc1 hc2
  have hc5 := trailerO_bulk i.obj
  refine AW.rS ?_
  refine AW.trim [3, 4, 5, 6, 7, 8] ?_
  refine AW.seq ?_
  refine AW.fS [0, 2, 5, 6, 1, 3, 4, 7, 8, 9, 10, 11, 12, 13, 14, 15, 16, 17, 18, 19] [] ?_
  refine awFun.rn ?_
  refine awFun.c1 [43] (c_foliantref19_Size _ d (by omega) (by omega)) ?_
  refine awFun.rn ?_
  refine awFun.c1 [45] (c_foliantref19_Size _ e (by omega) (by omega)) ?_
  refine awFun.rn ?_
  refine awFun.c1 [49] (c_foliantref05_Size _ i.obj (by omega) (by omega)) ?_
  refine awFun.rn ?_
  rw [Aw.awFun_nil, Aw.awPlan_nil]
  refine AW.trim [3, 4, 5, 6, 7, 8, 62] ?_
  refine AW.c2 ?_ ?_
  · intro h12
    refine AW.rSC ?_
    refine awOps.cons (awGuard.c1 (c_law19_lives _) ?_)
    refine awOps.rn ?_
    refine AW.trim [12] ?_
    refine AW.rt ?_
    all_goals first | contradiction | rfl | (simp; done) | (simp; omega)
  · intro h12
    refine AW.skip ?_
    refine AW.rSC ?_
    refine awOps.cons (awGuard.c1 (c_docs_Put _ d i (by omega)) ?_)
    refine awOps.rn ?_
    refine AW.trim [3, 4, 5, 6, 7, 8, 13, 14] ?_
    refine AW.rSC ?_
    refine awOps.cons (awGuard.c1 (c_foliantref19_Put _ d i (by omega)) ?_)
    refine awOps.rn ?_
    refine AW.trim [3, 4, 5, 6, 7, 8, 13, 14, 15, 16] ?_
    refine AW.rSC ?_
    refine awOps.cons (awGuard.c1 (c_docs_Drop _ d n (by omega)) ?_)
    refine awOps.rn ?_
    refine AW.trim [3, 4, 5, 6, 7, 8, 13, 14, 15, 16, 17, 18] ?_
    refine AW.rSC ?_
    refine awOps.cons (awGuard.c1 (c_foliantref19_Drop _ d n (by omega)) ?_)
    refine awOps.rn ?_
    refine AW.trim [3, 4, 5, 6, 7, 8, 13, 14, 15, 16, 17, 18, 19, 20] ?_
    refine AW.rSC ?_
    refine awOps.cons (awGuard.c1 (c_docs_Free _ d (by omega)) ?_)
    refine awOps.rn ?_
    refine AW.trim [3, 4, 5, 6, 7, 8, 13, 14, 15, 16, 17, 18, 19, 20, 21, 22] ?_
    refine AW.rSC ?_
    refine awOps.cons (awGuard.c1 (c_foliantref19_Free _ d (by omega)) ?_)
    refine awOps.rn ?_
    refine AW.trim [3, 4, 5, 6, 7, 8, 13, 14, 15, 16, 17, 18, 19, 20, 21, 22, 23, 24] ?_
    refine AW.rSC ?_
    refine awOps.cons (awGuard.c1 (c_docs_Add _ d i.obj (by omega)) ?_)
    refine awOps.rn ?_
    refine AW.trim [3, 4, 5, 6, 7, 8, 13, 14, 15, 16, 17, 18, 19, 20, 21, 22, 23, 24, 25, 26, 27] ?_
    refine AW.rSC ?_
    refine awOps.cons (awGuard.c1 (c_foliantref19_Add _ d i.obj (by omega)) ?_)
    refine awOps.rn ?_
    refine AW.trim [3, 4, 5, 6, 7, 8, 13, 14, 15, 16, 17, 18, 19, 20, 21, 22, 23, 24, 25, 26, 27, 28, 29, 30] ?_
    refine AW.rSC ?_
    refine awOps.cons (awGuard.c1 (c_docs_Apply _ d e.items ns (by omega) (by omega)) ?_)
    refine awOps.rn ?_
    refine AW.trim [3, 4, 5, 6, 7, 8, 13, 14, 15, 16, 17, 18, 19, 20, 21, 22, 23, 24, 25, 26, 27, 28, 29, 30, 31, 32] ?_
    refine AW.rSC ?_
    refine awOps.cons (awGuard.c1 (c_foliantref19_Apply _ d e.items ns (by omega) (by omega)) ?_)
    refine awOps.rn ?_
    refine AW.trim [3, 4, 6, 7, 8, 13, 14, 15, 16, 17, 18, 19, 20, 21, 22, 23, 24, 25, 26, 27, 28, 29, 30, 31, 32, 33, 34] ?_
    refine AW.seq ?_
    refine AW.rSC ?_
    refine awOps.cons (awGuard.c1 (c_foliantref19_Same _ (putO d i) (putO d i) (by omega)) ?_)
    refine awOps.rn ?_
    refine awOps.cons (awGuard.cG (fun hg => c_foliantref19_Same _ (dropD d n) (dropD d n) (by omega)) ?_)
    refine awOps.rn ?_
    refine awOps.cons (awGuard.cG (fun hg => c_foliantref19_Same _ (addO d i.obj) (addO d i.obj) (by omega)) ?_)
    refine awOps.rn ?_
    refine awOps.cons (awGuard.cG (fun hg => c_foliantref19_Same _ (applyD d e.items ns) (applyD d e.items ns) (by omega)) ?_)
    refine awOps.rn ?_
    refine AW.trim [3, 4, 6, 7, 8, 186] ?_
    refine AW.c2 ?_ ?_
    · intro h59
      exfalso
      simp at h59
    · intro h59
      refine AW.skip ?_
      refine AW.rSC ?_
      refine awOps.cons (awGuard.c1 (c_docs_Diff _ d e (by omega) (by omega)) ?_)
      refine awOps.rn ?_
      refine AW.trim [3, 4, 6, 7, 8, 35, 36] ?_
      refine AW.rSC ?_
      refine awOps.cons (awGuard.c1 (c_foliantref19_Diff _ d e (by omega) (by omega)) ?_)
      refine awOps.rn ?_
      refine AW.trim [3, 4, 6, 7, 8, 35, 36, 37, 38] ?_
      refine AW.rSC ?_
      refine awOps.cons (awGuard.c1 (c_docs_Get _ d n (by omega)) ?_)
      refine awOps.rn ?_
      refine AW.trim [3, 4, 6, 7, 8, 35, 36, 37, 38, 39, 40] ?_
      refine AW.rSC ?_
      refine awOps.cons (awGuard.c1 (c_foliantref19_Get _ d n (by omega)) ?_)
      refine awOps.rn ?_
      refine AW.trim [4, 6, 7, 8, 35, 36, 37, 38, 39, 40, 41, 42] ?_
      refine AW.fS [0, 1, 2, 3, 4, 5, 6, 7, 8, 9, 10, 11, 12, 13, 14, 15, 16, 17, 18, 19, 21, 20, 22, 23, 24, 25, 26, 27, 29, 30, 28, 31, 32, 33, 34, 35, 36, 37, 39, 40, 41, 38, 42, 43, 44, 45, 46, 47, 48, 49, 51, 52, 53, 54, 50, 55, 56, 57, 58, 59, 60, 62, 63, 61, 64, 65, 66, 67, 68, 69, 70] [] ?_
      refine awFun.rn ?_
      refine awFun.c1 [211, 212] (c_foliantref19_SameItems _ (diffL d e) (diffL d e) (by omega)) ?_
      refine awFun.rn ?_
      refine awFun.cG [214, 215, 216] (fun hg => c_foliantref05_Ints _ (diffG d e) (diffG d e) (by omega)) ?_
      refine awFun.rn ?_
      refine awFun.cG [219, 220, 221] (fun hg => c_foliantref19_SameItem _ ((lookI d.items n).getD Itm.zero) ((lookI d.items n).getD Itm.zero) (by omega)) ?_
      refine awFun.rn ?_
      refine awFun.cG [229, 230] (fun hg => c_docs_Check _ d (by omega)) ?_
      refine awFun.rn ?_
      refine awFun.cG [229, 232] (fun hg => c_foliantref19_Check _ d (by omega)) ?_
      refine awFun.rn ?_
      refine awFun.cG [236, 237, 238] (fun hg => c_docs_Same _ d e (by omega)) ?_
      refine awFun.rn ?_
      refine awFun.cG [236, 240, 241] (fun hg => c_foliantref19_Same _ d e (by omega)) ?_
      refine awFun.rn ?_
      refine awFun.cG [245, 246, 248] (fun hg => c_docs_Follow _ d i.obj (by omega) (by omega)) ?_
      refine awFun.rn ?_
      refine awFun.cG [245, 250, 252] (fun hg => c_foliantref19_Follow _ d i.obj (by omega)) ?_
      refine awFun.rn ?_
      refine awFun.cG [245, 249, 253] (fun hg => c_foliantref05_Same _ (followO d i.obj) (followO d i.obj) (by omega)) ?_
      refine awFun.rn ?_
      refine awFun.cG [256, 257, 259, 260] (fun hg => c_docs_Path _ d i.obj ks (by omega) (by omega) (by omega)) ?_
      refine awFun.rn ?_
      refine awFun.cG [256, 262, 264, 265] (fun hg => c_foliantref19_Path _ d i.obj ks (by omega) (by omega) (by omega)) ?_
      refine awFun.rn ?_
      refine awFun.cG [256, 261, 266] (fun hg => c_foliantref05_Same _ (pathO d i.obj ks) (pathO d i.obj ks) (by omega)) ?_
      refine awFun.rn ?_
      refine awFun.cG [269, 271] (fun hg => c_docs_Trailer _ i.obj (by omega)) ?_
      refine awFun.rn ?_
      refine awFun.cG [269, 274] (fun hg => c_foliantref19_Trailer _ i.obj (by omega)) ?_
      refine awFun.rn ?_
      refine awFun.cG [269, 272, 275] (fun hg => c_foliantref05_Same _ (trailerO i.obj) (trailerO i.obj) (by omega)) ?_
      refine awFun.rn ?_
      refine awFun.cG [278] (fun hg => c_law19_lives _) ?_
      refine awFun.rn ?_
      rw [Aw.awFun_nil, Aw.awPlan_nil]
      refine AW.trim [12] ?_
      refine AW.rt ?_
      simp
end Go.Proofs
