/- A part of the proof of a law of the seat: no condition of its own. -/
import Derived.Test.YtokikpiffafajaaGreatPart11
namespace Go.Proofs
open Go Aw
set_option linter.unusedSimpArgs false
set_option linter.unusedVariables false
set_option maxRecDepth 100000
set_option maxHeartbeats 2000000
attribute [local go_sem] pairsAV_length pairsAV_ok pairsAV_len7 pairsAV_at
theorem pr_cells (o : Pob) : [AV.int .i64 o.kind, .int .i64 o.num, .int .i64 o.gen, .str o.str, .sl (strsAV o.keys), .sl (List.map Pob.cells o.kids)] = o.cells := by rw [← objsAV_map]; cases o; rfl
theorem c_catalog_dict (gl : List (Nat × AV)) (l : Prs) (h : pairsB l ≤ 1000000) : FnP Tryz.prog (gl) 30 [.sl (pairsAV l)] fun r => r = .ret (.agg (dictO (pairL l)).cells) := by
  refine FnP.intro Tryz.func30 rfl rfl (by simp [Tryz.ntmps30]) ?_
  simp only [argEnv, Tryz.ntmps30, Tryz.results30]
  have hb := pairL_bulks l
  have hl := pairL_length l
  have hpl := pairsB_length l
  refine AW.rS ?_
  refine AW.rS ?_
  refine AW.seq ?_
  refine AW.rS ?_
  refine AW.block ?_
  refine AW.pre (St.le.nilrow 3 6 (by (simp only [go_sem, seval]; try (simp (disch := omega) only [zqa, zqb, zqc, zqd, zqe, zqf, zqg, zqh, zqi, zqj, zqk, zql, zqm, zqn, zqo, zqp, zqq, zqr, zqs]; try (simp only [go_sem, seval]; try (simp (disch := omega) only [zqa, zqb, zqc, zqd, zqe, zqf, zqg, zqh, zqi, zqj, zqk, zql, zqm, zqn, zqo, zqp, zqq, zqr, zqs]; try simp only [go_sem, seval])))))) ?_
  refine wk ?_
  refine AW.lk (S := { i : Nat // i ≤ l.length }) [2, 8, 9] (fun s_ => [(3, .row 1 0 (pairL (l.take s_.1)).length), (10, .int .i64 s_.1)]) (fun s_ => [(0, .cells [.int .i64 0, .int .i64 0, .int .i64 0, .str [], .raw (.slice none 0 0), .raw (.slice none 0 0)]), (1, .row 6 (objsAV (pairL (l.take s_.1))) true)]) 2 (fun s_ => l.length - s_.1) ⟨0, Nat.zero_le _⟩ ?_ ?_
  · refine St.le.vw [0, 1]
  rintro ⟨i, hi⟩
  try dsimp only at hi
  refine AW.rS ?_
  refine AW.seq ?_
  refine AW.c2 ?_ ?_
  · intro h9
    obtain ⟨j, rfl⟩ : ∃ j : { n : Nat // n < l.length }, j.1 = i := ⟨⟨i, h9⟩, rfl⟩
    refine AW.skip ?_
    refine AW.seq ?_
    refine AW.block ?_
    refine AW.rS ?_
    have hsu := pairL_succ h9
    have hs2 := congrArg List.length hsu
    have hs3 := pairL_length (l.take j.1)
    rw [List.length_append] at hs2
    rw [List.length_take] at hs3
    simp only [List.length_cons, List.length_nil] at hs2
    refine AW.fL [0, 1, 2, 4, 5, 3, 6] [(7, 2), (8, 2)] ?_
    refine awFun.rn ?_
    refine awFun.c1 [16] (c_value_Name _ (l.getD j.1 prZ).1) ?_
    refine awFun.rn ?_
    refine awFun.bs [17, 19] ?_
    refine awFun.rn ?_
    rw [Aw.awFun_nil]
    refine awPlan.rn ?_
    refine AW.rL ?_
    refine ⟨⟨j.1 + 1, by omega⟩, ?_, ?_⟩
    · refine St.le.vx [0, 3] ?_
      rw [hsu]; simp [objsAV_map]; exact ⟨pr_cells _, pr_cells _⟩
    · simp only []; omega
  · intro h9
    obtain rfl : i = l.length := by omega
    rw [List.take_length]
    refine AW.clo 3 ?_
    refine wk ?_
    refine AW.exit ?_
    refine AW.rSC ?_
    refine awOps.cons (awGuard.c1 (c_value_Dict _ (pairL l) (by omega)) ?_)
    refine awOps.rn ?_
    refine AW.rS ?_
    refine AW.rt ?_
    all_goals first | contradiction | rfl | (simp; done) | (simp; omega)
theorem c_catalog_SetInfo (gl : List (Nat × AV)) (d : Dc) (k t : List UInt8) (h : d.bulk ≤ 4000000) : FnP Tryz.prog (gl) 18 [.agg d.cells, .str k, .str t] fun r => r = .ret (.tup [.agg (setInfoD d k t).cells, .int .i64 (setInfoE d k t)]) := by
  refine FnP.intro Tryz.func18 rfl rfl (by simp [Tryz.ntmps18]) ?_
  simp only [argEnv, Tryz.ntmps18, Tryz.results18]
  have hr := infoR_le d
  have ho := infoO_le d
  have hl := look_bulk d.items (infoR d).num
  have hb : d.bulk = ibulk d.items + d.trailer.bulk := rfl
  refine AW.rS ?_
  refine AW.rSC ?_
  refine awOps.cons (awGuard.c1 (c_docs_Check _ d (by omega)) ?_)
  refine awOps.rn ?_
  refine AW.seq ?_
  refine AW.rS ?_
  refine AW.c2 ?_ ?_
  · intro h7
    refine AW.rLC ?_
    refine awOps.cons (awGuard.c1 (c_catalog_keyed _ k) ?_)
    refine awOps.rn ?_
    refine AW.seq ?_
    refine AW.rS ?_
    refine AW.c2 ?_ ?_
    · intro h13
      refine AW.rL ?_
      refine AW.seq ?_
      refine AW.rS ?_
      refine AW.c2 ?_ ?_
      · intro h17
        refine AW.rS ?_
        refine AW.rt ?_
        rw [(setInfo_long h7 h13.1 h13.2).1, (setInfo_long h7 h13.1 h13.2).2]; rfl
      · intro h17
        simp at h17
    · intro h13
      refine AW.skip ?_
      refine AW.seq ?_
      refine AW.rS ?_
      refine AW.c2 ?_ ?_
      · intro h175
        refine AW.rS ?_
        refine AW.rt ?_
        rw [(setInfo_key h7 h175).1, (setInfo_key h7 h175).2]; rfl
      · intro h175
        have h13b : ¬ 4096 < (t.length : Int) := by rcases h13 with h | h; exact absurd h175 h; omega
        refine AW.skip ?_
        refine AW.rSC ?_
        refine awOps.cons (awGuard.c1 (c_value_Null _) ?_)
        refine awOps.rn ?_
        refine AW.seq ?_
        refine AW.rS ?_
        refine AW.c2 ?_ ?_
        · intro h185
          have ht := textO_some h185
          have htb : (strO t).bulk = 1 := by rw [← ht]; exact textO_bulk t
          have hso := setO_bulk (infoO d) k (strO t)
          have hdo := dictO_bulk [nameO k, strO t]
          have hao := addO_bulk d (dictO [nameO k, strO t])
          have hrb := refO_bulk (addN d (dictO [nameO k, strO t])) 0
          have hnb := nameO_bulk k
          simp only [bulks] at hdo
          refine AW.rLC ?_
          refine awOps.cons (awGuard.c1 (c_value_String _ t) ?_)
          refine awOps.rn ?_
          refine AW.rSC ?_
          refine awOps.cons (awGuard.c1 (c_docs_Apply _ d [] [] (by have : ibulk [] = 0 := rfl; omega) (by simp)) ?_)
          refine awOps.rn ?_
          rw [apply_nil h7]
          refine AW.rSC ?_
          refine awOps.cons (awGuard.c1 (c_catalog_information _ d (by omega)) ?_)
          refine awOps.rn ?_
          refine AW.seq ?_
          refine AW.block ?_
          refine AW.rS ?_
          refine AW.c2 ?_ ?_
          · intro h198
            refine AW.rSC ?_
            refine awOps.cons (awGuard.c1 (c_docs_Get _ d (infoR d).num (by omega)) ?_)
            refine awOps.rn ?_
            refine AW.rSC ?_
            refine awOps.cons (awGuard.c1 (c_catalog_with _ d ((lookI d.items (infoR d).num).getD Itm.zero) k (strO t) (by omega)) ?_)
            refine awOps.rn ?_
            refine AW.rt ?_
            rw [(setInfo_ok h7 h175 h13b).1, (setInfo_ok h7 h175 h13b).2, (putInfo_ref h198.1 h198.2).1, (putInfo_ref h198.1 h198.2).2, ht]
          · intro h198
            refine AW.rS ?_
            refine AW.c2 ?_ ?_
            · intro h208
              refine AW.rSC ?_
              refine awOps.cons (awGuard.c1 (c_value_Set _ (infoO d) k (strO t) (by omega)) ?_)
              refine awOps.rn ?_
              refine AW.seq ?_
              refine AW.rS ?_
              refine AW.c2 ?_ ?_
              · intro h214
                refine AW.rS ?_
                refine AW.rt ?_
                rw [(setInfo_ok h7 h175 h13b).1, (setInfo_ok h7 h175 h13b).2, (putInfo_bad h208 (h198.resolve_left (fun h => h h208)) (by rw [ht]; exact h214)).1, (putInfo_bad h208 (h198.resolve_left (fun h => h h208)) (by rw [ht]; exact h214)).2, ht]; rfl
              · intro h214
                refine AW.skip ?_
                refine AW.rSC ?_
                refine awOps.cons (awGuard.c1 (c_catalog_trailed _ d (setO (infoO d) k (strO t)) (by omega)) ?_)
                refine awOps.rn ?_
                refine AW.rt ?_
                rw [(setInfo_ok h7 h175 h13b).1, (setInfo_ok h7 h175 h13b).2, (putInfo_set h208 (h198.resolve_left (fun h => h h208)) (by rw [ht]; exact h214)).1, (putInfo_set h208 (h198.resolve_left (fun h => h h208)) (by rw [ht]; exact h214)).2, ht]
            · intro h208
              refine AW.rS ?_
              refine AW.c2 ?_ ?_
              · intro h225
                exact absurd h225 h185
              · intro h225
                refine AW.skip ?_
                refine AW.fS [0, 1, 2, 3, 4, 5, 6, 7] [(8, 0), (9, 0), (10, 0), (11, 2), (12, 2), (13, 2)] ?_
                refine awFun.rn ?_
                refine awFun.ef [96, 97] ?_
                refine awFun.rn ?_
                refine awFun.bs [98] ?_
                refine awFun.rn ?_
                refine awFun.c1 [99] (c_catalog_dict _ [(k, strO t)] (by simp [pairsB]; omega)) ?_
                refine awFun.rn ?_
                refine awFun.c1 [95, 100] (c_docs_Add _ d (dictO [nameO k, strO t]) (by omega)) ?_
                refine awFun.rn ?_
                rw [Aw.awFun_nil]
                refine awPlan.rn ?_
                refine AW.seq ?_
                refine AW.rS ?_
                refine AW.c2 ?_ ?_
                · intro h244
                  refine AW.rS ?_
                  refine AW.rt ?_
                  rw [(setInfo_ok h7 h175 h13b).1, (setInfo_ok h7 h175 h13b).2, (putInfo_full h208 h185 (by rw [ht]; exact h244)).1, (putInfo_full h208 h185 (by rw [ht]; exact h244)).2, ht]; rfl
                · intro h244
                  refine AW.skip ?_
                  refine AW.fS [0, 1, 2, 3, 4, 5] [(6, 2), (7, 2)] ?_
                  refine awFun.rn ?_
                  refine awFun.c1 [110] (c_value_Ref _ (addN d (dictO [nameO k, strO t])) 0 (by have := addN_range d (dictO [nameO k, strO t]); omega)) ?_
                  refine awFun.rn ?_
                  refine awFun.c1 [109, 111] (c_catalog_trailed _ (addO d (dictO [nameO k, strO t])) (refO (addN d (dictO [nameO k, strO t])) 0) (by omega)) ?_
                  refine awFun.rn ?_
                  rw [Aw.awFun_nil]
                  refine awPlan.rn ?_
                  refine AW.rt ?_
                  rw [(setInfo_ok h7 h175 h13b).1, (setInfo_ok h7 h175 h13b).2, (putInfo_add h208 h185 (by rw [ht]; exact h244)).1, (putInfo_add h208 h185 (by rw [ht]; exact h244)).2, ht]
        · intro h185
          have ht : textO t = Pob.null := by rw [show t = [] by simpa using h185]; rfl
          have htb : Pob.null.bulk = 1 := by rw [← ht]; exact textO_bulk t
          have hso := setO_bulk (infoO d) k Pob.null
          refine AW.skip ?_
          refine AW.rSC ?_
          refine awOps.cons (awGuard.c1 (c_docs_Apply _ d [] [] (by have : ibulk [] = 0 := rfl; omega) (by simp)) ?_)
          refine awOps.rn ?_
          rw [apply_nil h7]
          refine AW.rSC ?_
          refine awOps.cons (awGuard.c1 (c_catalog_information _ d (by omega)) ?_)
          refine awOps.rn ?_
          refine AW.seq ?_
          refine AW.block ?_
          refine AW.rS ?_
          refine AW.c2 ?_ ?_
          · intro h269
            refine AW.rSC ?_
            refine awOps.cons (awGuard.c1 (c_docs_Get _ d (infoR d).num (by omega)) ?_)
            refine awOps.rn ?_
            refine AW.rSC ?_
            refine awOps.cons (awGuard.c1 (c_catalog_with _ d ((lookI d.items (infoR d).num).getD Itm.zero) k (Pob.null) (by omega)) ?_)
            refine awOps.rn ?_
            refine AW.rt ?_
            rw [(setInfo_ok h7 h175 h13b).1, (setInfo_ok h7 h175 h13b).2, (putInfo_ref h269.1 h269.2).1, (putInfo_ref h269.1 h269.2).2, ht]
          · intro h269
            refine AW.rS ?_
            refine AW.c2 ?_ ?_
            · intro h279
              refine AW.rSC ?_
              refine awOps.cons (awGuard.c1 (c_value_Set _ (infoO d) k (Pob.null) (by omega)) ?_)
              refine awOps.rn ?_
              refine AW.seq ?_
              refine AW.rS ?_
              refine AW.c2 ?_ ?_
              · intro h285
                refine AW.rS ?_
                refine AW.rt ?_
                rw [(setInfo_ok h7 h175 h13b).1, (setInfo_ok h7 h175 h13b).2, (putInfo_bad h279 (h269.resolve_left (fun h => h h279)) (by rw [ht]; exact h285)).1, (putInfo_bad h279 (h269.resolve_left (fun h => h h279)) (by rw [ht]; exact h285)).2, ht]; rfl
              · intro h285
                refine AW.skip ?_
                refine AW.rSC ?_
                refine awOps.cons (awGuard.c1 (c_catalog_trailed _ d (setO (infoO d) k (Pob.null)) (by omega)) ?_)
                refine awOps.rn ?_
                refine AW.rt ?_
                rw [(setInfo_ok h7 h175 h13b).1, (setInfo_ok h7 h175 h13b).2, (putInfo_set h279 (h269.resolve_left (fun h => h h279)) (by rw [ht]; exact h285)).1, (putInfo_set h279 (h269.resolve_left (fun h => h h279)) (by rw [ht]; exact h285)).2, ht]
            · intro h279
              refine AW.rS ?_
              refine AW.c2 ?_ ?_
              · intro h296
                refine AW.rS ?_
                refine AW.rt ?_
                obtain rfl : t = [] := by simpa using h185
                rw [(setInfo_ok h7 h175 h13b).1, (setInfo_ok h7 h175 h13b).2, (putInfo_none h279).1, (putInfo_none h279).2]
              · intro h296
                exact absurd h185 h296
  · intro h7
    refine AW.skip ?_
    refine AW.seq ?_
    refine AW.rS ?_
    refine AW.c2 ?_ ?_
    · intro h333
      exact absurd h333.1 h7
    · intro h333
      refine AW.skip ?_
      refine AW.seq ?_
      refine AW.rS ?_
      refine AW.c2 ?_ ?_
      · intro h495
        refine AW.rS ?_
        refine AW.rt ?_
        rw [(setInfo_doc h7).1, (setInfo_doc h7).2]; rfl
      · intro h495
        exact absurd h495 h7
theorem c_catalog_New (gl : List (Nat × AV)) (n : Int) : FnP Tryz.prog (gl) 8 [.int .i64 n] fun r => r = .ret (.tup [.agg (newD n).cells, .int .i64 (newE n)]) := by
  refine FnP.intro Tryz.func8 rfl rfl (by simp [Tryz.ntmps8]) ?_
  simp only [argEnv, Tryz.ntmps8, Tryz.results8]
  refine AW.rS ?_
  refine AW.seq ?_
  refine AW.rS ?_
  refine AW.c2 ?_ ?_
  · intro h4
    refine AW.rS ?_
    refine AW.rt ?_
    rw [newD, newE, if_pos (by omega), if_pos (by omega)]; rfl
  · intro h4
    refine AW.skip ?_
    refine AW.rSC ?_
    refine awOps.cons (awGuard.c1 (c_value_Ref _ 2 0 (by omega)) ?_)
    refine awOps.rn ?_
    refine AW.rSC ?_
    refine awOps.cons (awGuard.c1 (c_value_Int _ 0) ?_)
    refine awOps.rn ?_
    refine awOps.cons (awGuard.c1 (c_value_Int _ 0) ?_)
    refine awOps.rn ?_
    refine awOps.cons (awGuard.c1 (c_value_Int _ 612) ?_)
    refine awOps.rn ?_
    refine awOps.cons (awGuard.c1 (c_value_Int _ 792) ?_)
    refine awOps.rn ?_
    refine awOps.cons (awGuard.c1 (c_value_Array _ [intO 0, intO 0, intO 612, intO 792] (by decide)) ?_)
    refine awOps.rn ?_
    refine AW.eS [0, 2, 1, 3, 4, 5, 6, 7] 8 [(9, 2)] ?_
    refine awFunE.p ?_
    refine awFunE.p ?_
    refine awFunE.ef [25] ?_
    refine awFunE.ef [27] ?_
    refine awFunE.c1 [] (c_value_Name _ nwPageK) ?_
    refine awFunE.ef [29] ?_
    refine awFunE.bs [26, 28, 30] ?_
    refine awFunE.c1 [31] (c_catalog_dict _ pageP (by decide)) ?_
    rw [Aw.awFunE_nil]
    refine awPlan.rn ?_
    refine AW.eS [0, 1, 2, 3, 4, 5] 6 [(7, 2)] ?_
    refine awFunE.p ?_
    refine awFunE.ef [33] ?_
    refine awFunE.c1 [] (c_value_Name _ nwCatalogK) ?_
    refine awFunE.ef [35] ?_
    refine awFunE.bs [34, 36] ?_
    refine awFunE.c1 [37] (c_catalog_dict _ rootP (by decide)) ?_
    rw [Aw.awFunE_nil]
    refine awPlan.rn ?_
    refine AW.rS ?_
    refine AW.rS ?_
    refine AW.seq ?_
    refine AW.rS ?_
    refine AW.block ?_
    refine AW.pre (St.le.nilrow 9 6 (by (simp only [go_sem, seval]; try (simp (disch := omega) only [zqa, zqb, zqc, zqd, zqe, zqf, zqg, zqh, zqi, zqj, zqk, zql, zqm, zqn, zqo, zqp, zqq, zqr, zqs]; try (simp only [go_sem, seval]; try (simp (disch := omega) only [zqa, zqb, zqc, zqd, zqe, zqf, zqg, zqh, zqi, zqj, zqk, zql, zqm, zqn, zqo, zqp, zqq, zqr, zqs]; try simp only [go_sem, seval])))))) ?_
    refine wk ?_
    refine AW.lk (S := { m : Nat // (m : Int) ≤ n }) [0, 2, 6, 8] (fun s_ => [(9, .row 8 0 (kidsN s_.1).length), (10, .int .i64 (3 + s_.1))]) (fun s_ => [(0, .cells [.raw (.slice none 0 0), .int .i64 0, .int .i64 0, .int .i64 0, .str [], .raw (.slice none 0 0), .raw (.slice none 0 0)]), (4, .cells [.int .i64 pageO.kind, .int .i64 pageO.num, .int .i64 pageO.gen, .str pageO.str, .sl (strsAV pageO.keys), .sl (objsAV pageO.kids)]), (6, .row 8 (itemsAV (newI s_.1)) true), (7, .cells [.row 6 0 (newI s_.1).length, .int .i64 0, .int .i64 0, .int .i64 0, .str [], .raw (.slice none 0 0), .raw (.slice none 0 0)]), (8, .row 6 (objsAV (kidsN s_.1)) true)]) 9 (fun s_ => (n - s_.1).toNat) ⟨0, by omega⟩ ?_ ?_
    · refine St.le.vw [0, 1, 2, 3, 4, 5, 6, 7, 8]
    rintro ⟨m, hm⟩
    try dsimp only at hm
    refine AW.seq ?_
    refine AW.rS ?_
    refine AW.c2 ?_ ?_
    · intro h51
      refine AW.skip ?_
      refine AW.seq ?_
      refine AW.block ?_
      refine AW.rSC ?_
      have hkl := kidsN_length m
      have hil := newI_length m
      have hks := kidsN_succ m
      have his := newI_succ m
      have hks2 := kidsN_length (m + 1)
      have his2 := newI_length (m + 1)
      refine awOps.cons (awGuard.c1 (c_value_Ref _ (3 + m) 0 (by omega)) ?_)
      refine awOps.rn ?_
      refine AW.fL [0, 1, 2, 3, 4, 5, 6] [(7, 2), (8, 2), (9, 2)] ?_
      refine awFun.rn ?_
      refine awFun.c1 [58] (c_value_Clone _ pageO (by have := pageO_bulk; omega)) ?_
      refine awFun.rn ?_
      refine awFun.ef [57, 59] ?_
      refine awFun.rn ?_
      refine awFun.bs [60] ?_
      refine awFun.rn ?_
      rw [Aw.awFun_nil]
      refine awPlan.rn ?_
      refine AW.rL ?_
      refine ⟨⟨m + 1, by omega⟩, ?_, ?_⟩
      · refine St.le.vx [0, 1, 2, 3, 4, 5, 11, 7, 10] ?_
        rw [hks, his]; simp [objsAV_map, itemsAV]; exact ⟨by simp only [Itm.cells, objsAV_map], pr_cells _⟩
      · simp only []; omega
    · intro h51
      obtain rfl : n = (m : Int) := by omega
      have hkl := kidsN_length m
      have hil := newI_length m
      have hpl := pagesI_length m
      have hkb := kidsN_bulks m
      have htb := treeP_bulk m
      rw [newI_av]
      refine AW.clo 9 ?_
      refine wk ?_
      refine AW.exit ?_
      refine AW.fS [0, 1, 2, 5, 3, 4, 6, 7, 8, 9, 10, 11, 12, 13] [(14, 2)] ?_
      refine awFun.rn ?_
      refine awFun.c1 [66] (c_value_Int _ m) ?_
      refine awFun.rn ?_
      refine awFun.ef [67] ?_
      refine awFun.rn ?_
      refine awFun.c1 [69] (c_value_Array _ (kidsN m) (by rw [arrO_bulk]; omega)) ?_
      refine awFun.rn ?_
      refine awFun.ef [70] ?_
      refine awFun.rn ?_
      refine awFun.c1 [] (c_value_Name _ nwPagesK) ?_
      refine awFun.rn ?_
      refine awFun.ef [72] ?_
      refine awFun.rn ?_
      refine awFun.bs [68, 71, 73] ?_
      refine awFun.rn ?_
      refine awFun.c1 [74] (c_catalog_dict _ (treeP m) (by omega)) ?_
      refine awFun.rn ?_
      rw [Aw.awFun_nil]
      refine awPlan.rn ?_
      refine awPlan.only rfl ?_
      refine awGuard.sF  ?_
      refine awPlan.rn ?_
      refine AW.rSC ?_
      refine awOps.cons (awGuard.c1 (c_value_Ref _ 1 0 (by omega)) ?_)
      refine awOps.rn ?_
      refine awOps.cons (awGuard.c1 (c_catalog_dict _ trailP (by decide)) ?_)
      refine awOps.rn ?_
      refine AW.rS ?_
      refine AW.rt ?_
      rw [newD, newE, if_neg (by omega), if_neg (by omega)]
      refine ⟨by omega, ?_⟩
      rw [List.take_of_length_le (by simp [itemsAV_length]; omega)]
      rfl
end Go.Proofs

namespace Go.Proofs
open Go Aw
set_option linter.unusedSimpArgs false
set_option linter.unusedVariables false
set_option maxRecDepth 100000
set_option maxHeartbeats 2000000

attribute [local go_sem] take_strsAV drop_strsAV app_strsAV app1_strsAV take_intsAV drop_intsAV app_intsAV app1_intsAV take_objsAV drop_objsAV app_objsAV app1_objsAV
theorem c_foliantref05_place (gl : List (Nat × AV)) (l : List (List UInt8)) (key : List UInt8) (hl : l.length ≤ 16777216 := by first | omega | exact u8_le _ | assumption | (simp; done) | (simp; omega)) : FnP Tryz.prog (gl) 119 [.sl (strsAV l), .str key] fun r => r = .ret (.tup [.int .i64 (kplace l key), .bool (kthere l key)]) := by
  refine FnP.intro Tryz.func119 rfl rfl (by simp [Tryz.ntmps119]) ?_
  simp only [argEnv, Tryz.ntmps119, Tryz.results119]
  refine AW.rS ?_
  refine AW.rS ?_
  refine AW.seq ?_
  refine AW.block ?_
  refine AW.lk (S := { i : Nat // i ≤ l.length ∧ ∀ j, j < i → Op.bytesLess (l.getD j []) key = true }) [0, 1] (fun s_ => [(6, .int .i64 s_.1)]) (fun s_ => []) 0 (fun s_ => l.length - s_.1) ⟨0, Nat.zero_le _, fun j h => absurd h (by omega)⟩ ?_ ?_
  · refine St.le.vw []
  rintro ⟨i, hi, hs⟩
  try dsimp only at hi
  try dsimp only at hs
  refine AW.seq ?_
  by_cases hs7 : i < l.length
  · skip
    refine AW.rS ?_
    refine AW.c2 ?_ ?_
    · intro h8
      refine AW.skip ?_
      refine AW.block ?_
      refine AW.rL ?_
      refine ⟨⟨i + 1, by omega, fun j hj => (Nat.lt_or_ge j i).elim (hs j) (fun h => (show j = i by omega) ▸ (by have := h8; simp at this; simpa using this.2))⟩, ?_, ?_⟩
      · refine St.le.vw []
      · simp only []; omega
    · intro h8
      refine AW.exit ?_
      refine AW.dS [(0, 0), (1, 0), (2, 0), (3, 1), (4, 0), (5, 0), (6, 0), (7, 0), (8, 1), (9, 1), (10, 0), (11, 0), (12, 0), (13, 0), (14, 0)] ?_
      refine AW.rt ?_
      have hp := kplace_eq (ks := l) (key := key) hi hs (fun _ => (h8.elim (fun h => absurd hs7 h) id))
      rw [kthere, hp]
      simp [Bool.cond_false_right]
  · skip
    refine AW.rS ?_
    refine AW.c2 ?_ ?_
    · intro h8
      exfalso
      simp at h8
      try omega
    · intro h8
      refine AW.exit ?_
      refine AW.dS [(0, 0), (1, 0), (2, 0), (3, 1), (4, 0), (5, 0), (6, 0), (7, 0), (8, 1), (9, 1), (10, 0), (11, 0), (12, 0), (13, 0), (14, 0)] ?_
      refine AW.rt ?_
      have hp := kplace_eq (ks := l) (key := key) hi hs (fun h => absurd h (by omega))
      rw [kthere, hp]
      simp [hs7]
theorem c_foliantref05_Num (gl : List (Nat × AV)) (l : List Int) (n : Int) (hl : l.length ≤ 16777000 := by first | omega | exact u8_le _ | assumption | (simp; done) | (simp; omega)) : FnP Tryz.prog (gl) 100 [.sl (intsAV l), .int .i64 n] fun r => r = .ret (.sl (intsAV (numIns l n))) := by
  refine FnP.intro Tryz.func100 rfl rfl (by simp [Tryz.ntmps100]) ?_
  simp only [argEnv, Tryz.ntmps100, Tryz.results100]
  refine AW.rS ?_
  refine AW.rS ?_
  refine AW.seq ?_
  refine AW.block ?_
  refine AW.lk (S := { i : Nat // i ≤ l.length ∧ ∀ j, j < i → l.getD j 0 < n }) [0, 1] (fun s_ => [(5, .int .i64 s_.1)]) (fun s_ => []) 0 (fun s_ => l.length - s_.1) ⟨0, Nat.zero_le _, fun j h => absurd h (by omega)⟩ ?_ ?_
  · refine St.le.vw []
  rintro ⟨i, hi, hs⟩
  try dsimp only at hi
  try dsimp only at hs
  refine AW.seq ?_
  by_cases hs7 : i < l.length
  · skip
    refine AW.rS ?_
    refine AW.c2 ?_ ?_
    · intro h8
      refine AW.skip ?_
      refine AW.block ?_
      refine AW.rL ?_
      refine ⟨⟨i + 1, by omega, fun j hj => (Nat.lt_or_ge j i).elim (hs j) (fun h => (show j = i by omega) ▸ (by have := h8; simp at this; simpa using this.2))⟩, ?_, ?_⟩
      · refine St.le.vw []
      · simp only []; omega
    · intro h8
      refine AW.exit ?_
      have hp := nplace_eq (l := l) (n := n) hi hs (fun _ => by have := h8.elim (fun h => absurd hs7 h) id; omega)
      refine AW.seq ?_
      refine AW.rS ?_
      refine AW.c2 ?_ ?_
      · intro h16
        refine AW.rS ?_
        refine AW.rt ?_
        unfold numIns
        rw [hp, if_pos h16]
      · intro h16
        refine AW.skip ?_
        have e : numIns l n = l.take i ++ [n] ++ l.drop i := by unfold numIns; rw [hp, if_neg (fun h => h16.elim (fun h1 => h1 hs7) (fun h2 => h2 h.2))]
        refine AW.tS (.take 1 0 (.take 2 0 (.take 3 0 (.take 5 0 (.take 8 0 (.take 9 0 (.take 10 0 (.fork 0 (.fork 4 (.fork 6 (.fork 7 (.fork 11 (.take 12 0 .done) .stop) .stop) .stop) (.fork 6 (.fork 4 (.fork 7 (.fork 11 (.take 12 0 .done) .stop) .stop) .stop) .stop)) (.fork 6 (.fork 0 (.fork 4 (.fork 7 (.fork 11 (.take 12 0 .done) .stop) .stop) .stop) .stop) .stop))))))))) ?_
        intro σ' hσ
        simp only [List.map_cons, List.map_nil, List.mem_cons, List.not_mem_nil, or_false] at hσ
        rcases hσ with rfl | rfl | rfl
        all_goals
          simp only [St.norm, sortE, insE]
          refine AW.rt ?_
          rw [e]
          simp [Nat.min_eq_left hi, List.take_of_length_le]
          refine ⟨by omega, ?_⟩
          rw [List.take_of_length_le (by simp; omega)]
  · skip
    refine AW.rS ?_
    refine AW.c2 ?_ ?_
    · intro h8
      exfalso
      simp at h8
      try omega
    · intro h8
      refine AW.exit ?_
      have hp := nplace_eq (l := l) (n := n) hi hs (fun h => absurd h (by omega))
      refine AW.seq ?_
      refine AW.rS ?_
      refine AW.c2 ?_ ?_
      · intro h16
        exfalso
        simp at h16
        try omega
      · intro h16
        refine AW.skip ?_
        have e : numIns l n = l.take i ++ [n] ++ l.drop i := by unfold numIns; rw [hp, if_neg (fun h => hs7 h.1)]
        refine AW.tS (.take 1 0 (.take 2 0 (.take 3 0 (.take 5 0 (.take 8 0 (.take 9 0 (.take 10 0 (.fork 0 (.fork 4 (.fork 6 (.fork 7 (.fork 11 (.take 12 0 .done) .stop) .stop) .stop) (.fork 6 (.fork 4 (.fork 7 (.fork 11 (.take 12 0 .done) .stop) .stop) .stop) .stop)) (.fork 6 (.fork 0 (.fork 4 (.fork 7 (.fork 11 (.take 12 0 .done) .stop) .stop) .stop) .stop) .stop))))))))) ?_
        intro σ' hσ
        simp only [List.map_cons, List.map_nil, List.mem_cons, List.not_mem_nil, or_false] at hσ
        rcases hσ with rfl | rfl | rfl
        all_goals
          simp only [St.norm, sortE, insE]
          refine AW.rt ?_
          rw [e]
          simp [Nat.min_eq_left hi, List.take_of_length_le]
          refine ⟨by omega, ?_⟩
          rw [List.take_of_length_le (by simp; omega)]
end Go.Proofs
