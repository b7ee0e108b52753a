/- A part of the proof: no condition of its own. -/
import Derived.Test.YtkngkpofninhkaaPart5
namespace Go.Proofs
open Go Aw
set_option linter.unusedSimpArgs false
set_option linter.unusedVariables false
set_option maxRecDepth 100000
set_option maxHeartbeats 1000000
attribute [local go_sem ↓ high] noTBm_net
attribute [local go_sem] mres netL_nil ebuildC acellsC partsC List.length_append List.length_cons List.length_nil
theorem h_graph_reach (gl : List (Nat × AV)) (l : List Itm) (o : Pob) (hl : l.length ≤ 8000000) (hb : ∀ i ∈ l, i.obj.bulk ≤ 16777216) (ho : o.bulk ≤ 16777216) :
    FnT (fun _ => True) Try.prog gl 24 [.map 0, .agg o.cells] [(0, mapOf KI VI (netL l))] 1 fun r h n => r = .ret (.map 1) ∧ h = [(0, mapOf KI VI (netL l)), (1, setOf (fun n => AV.int .i64 n) (reachS l o))] ∧ n = 2 := by
  refine FnT.intro Try.func24 rfl rfl (by simp [Try.ntmps24]) ?_ ?_
  · rintro q hp' nx' ⟨rfl, rfl, rfl⟩
    exact ⟨by simp only [↓noTHm_cons, noTHm, ↓noTBm_ints, ↓noTBm_net, Bool.and_self], _, rfl, rfl⟩
  intro B_
  simp only [argEnv, Try.ntmps24, Try.results24]
  refine AWT.rS ?_
  refine AWT.rSC ?_
  refine OpsT.cs (awGuard.mkS (keyOk_int .i64) ?_)
  refine OpsT.rn ?_
  refine OpsT.nil ?_
  refine AWT.rS ?_
  refine AWT.seq ?_
  refine AWT.block ?_
  refine AWT.lk (S := { p : (List Int × List Pob) × Pob // reachJ l o p.1 ∧ reachK 16777216 p.1 }) [2, 3, 5, 6] (fun s_ => []) (fun s_ => [(0, mapOf KI VI (netL l)), (1, .cells [.map 0]), (2, .cells (Pob.cells s_.1.2)), (3, setOf (fun n => AV.int .i64 n) s_.1.1.1), (4, .cells [.map 3]), (5, .row 6 (objsAV s_.1.1.2) true), (6, .cells [.row 5 0 s_.1.1.2.length])]) 7 (fun s_ => reachM l s_.1.1) ⟨(([], [o]), o), reachJ_top l o, by intro p hp; simp only [List.mem_singleton] at hp; subst hp; exact ho⟩ ?_ ?_
  · refine St.le.vx [0, 1, 2, 3, 4, 5, 6] (hpre := (by decide : ∀ i, i < 1 → nth [0, 1, 2, 3, 4, 5, 6] i = some i)) ?_
    simp [objsAV_map]
    rw [← objsAV_map]
    cases o
    rfl
  rintro ⟨⟨s, cur⟩, hj, hk⟩
  try dsimp only at hj
  try dsimp only at hk
  have hlen := reachI_len hj.1
  refine AWT.seq ?_
  refine AWT.rS ?_
  refine AWT.c2 ?_ ?_
  · intro h15
    have hn : 0 < s.2.length := by omega
    have hel := reachK_at hk hn
    refine AWT.skip ?_
    refine AWT.block ?_
    refine AWT.sS [0, 1, 2, 3, 4, 5, 6, 7, 8, 9, 10] 11 [(12, 2)] [(0, mapOf KI VI (netL l)), (1, .cells [.map 0]), (2, .cells (Pob.cells (s.2.getD (s.2.length - 1) Pob.null))), (3, setOf (fun n => AV.int .i64 n) s.1), (4, .cells [.map 3]), (5, .row 6 (objsAV s.2) true), (6, .cells [.row 5 0 s.2.length])] ?_
    iterate 11 refine awFunE.p ?_
    rw [Aw.awFunE_nil]
    refine ⟨EffAt.of [3, 21], ?_⟩
    refine awPlan.rn ?_
    refine AWT.pre (St.le.rowTake 5 (s.2.length - 1) rfl) ?_
    refine AWT.trim [2, 3, 5, 6] ?_
    rw [objsAV_take]
    have hpop : popS l s = (walkR (reachStp l) (s.1, (s.2.take (s.2.length - 1))) (Pob.pre (s.2.getD (s.2.length - 1) Pob.null))).1 := rfl
    have hmm := popS_M hj.1 hn
    have hpj := reachJ_pop hj hn
    have hpk := popS_K hb hk
    have hpi := pop_inv hj.1
    generalize hps : popS l s = ps at hpop hmm hpj hpk
    generalize (s.2.getD (s.2.length - 1) Pob.null) = el at hel hpop ⊢
    have htl : s.2.length - 1 = (s.2.take (s.2.length - 1)).length := by simp
    generalize (s.2.take (s.2.length - 1)) = td at hpop hpi htl ⊢
    rw [htl]
    refine AWT.rSC ?_
    refine OpsT.cN [] (FnT.ofH (h_graph_refs _ el)) ?_
    refine OpsT.rn ?_
    refine OpsT.nil ?_
    refine AWT.block ?_
    refine AWT.rU [1, 0, 4, 3, 6, 7] [5] [(2, .ptr 0 0), (5, .ptr 2 0), (6, .ptr 4 0)] (fun j h k => j = none ∧ (∃ rl lq, h = [(0, .cells [.map 1]), (1, mapOf KI VI (netL l)), (2, .cells [.map 3]), (3, setOf (fun n => AV.int .i64 n) ps.1), (4, .cells [.row 7 0 (ps.2).length]), (5, .cells (Pob.cells el)), (7, .row 6 (objsAV ps.2) true), (6, .lp lq rl)]) ∧ k = 8) (xs := [.ptr 5 0]) (hp0 := [(0, .cells [.map 1]), (1, mapOf KI VI (netL l)), (2, .cells [.map 3]), (3, setOf (fun n => AV.int .i64 n) s.1), (4, .cells [.row 7 0 (td).length]), (5, .cells (Pob.cells el)), (7, .row 6 (objsAV td) true)]) ?_ ?_
    · intro Ω _ lq rb rc hr
      refine (wr_refs gl l el (reachStp l) .skip (fun s => reachI l s) (fun s o h => reachI_stp s o h) lq rc (fun s1 o1 hs1 => ?_) (s.1, td) hpi hel).mono (fun q hp nx hh => ?_)
      · have hl1 := reachI_len hs1
        refine hr [_] _ 8 _ rfl rfl ?_
        refine AWT.rL ?_
        refine ⟨rfl, rfl, ?_⟩
        refine AWT.block ?_
        refine AWT.rSC ?_
        refine OpsT.cs (awGuard.c1 (c_graph_leads _ l o1) ?_)
        refine OpsT.rn ?_
        refine OpsT.nil ?_
        refine AWT.seq ?_
        refine AWT.rSC ?_
        refine OpsT.cs (awGuard.lkG (keyOk_int .i64) ?_)
        refine OpsT.rn ?_
        refine OpsT.nil ?_
        refine AWT.c2 ?_ ?_
        · intro hq
          have hb1 : reachB l s1.1 o1 = false := by
            cases hb1 : reachB l s1.1 o1
            · rfl
            · exfalso
              simp [reachB] at hb1
              simp [hb1.1, hb1.2] at hq
          refine AWT.exit ?_
          refine ⟨none, rfl, ⟨55, [], [(0, .cells [.map 1]), (1, mapOf KI VI (netL l)), (2, .cells [.map 3]), (3, setOf (fun n => AV.int .i64 n) (reachStp l s1 o1).1.1), (4, .cells [.row 7 0 ((reachStp l s1 o1).1.2).length]), (5, .cells (Pob.cells el)), (7, .row 6 (objsAV (reachStp l s1 o1).1.2) true), (6, .lp lq rb)], 8, gl, 7, []⟩, ?_, rfl, by simp only [go_sem, seval], rfl, rfl, rfl⟩
          refine St.le.vx [0, 1, 2, 3, 4, 5, 6, 7] (hpre := (by decide : ∀ i, i < 7 → nth [0, 1, 2, 3, 4, 5, 6, 7] i = some i)) ?_
          simp [reachStp, hb1]
        · intro hq
          have hb1 : reachB l s1.1 o1 = true := by
            cases hb1 : reachB l s1.1 o1
            · exfalso
              simp only [reachB, Bool.and_eq_false_iff, Bool.not_eq_false', decide_eq_true_eq] at hb1
              rcases hb1 with hb1 | hb1
              · simp [hb1] at hq
              · simp [hb1] at hq
            · rfl
          refine AWT.skip ?_
          refine AWT.rSC ?_
          refine OpsT.cs (awGuard.upS (keyOk_int .i64) ?_)
          refine OpsT.rn ?_
          refine OpsT.nil ?_
          refine AWT.trim [6, 8] ?_
          refine AWT.tGL (σf := ?sf10) (.take 1 0 (.fork 0 (.fork 2 (.fork 3 (.fork 4 (.fork 5 (.fork 6 (.fork 7 (.fork 8 .done .stop) (.fork 8 (.fork 7 .done .stop) .stop)) (.fork 8 (.fork 6 (.fork 7 .done .stop) .stop) .stop)) .stop) .stop) (.fork 4 (.fork 3 (.fork 5 (.fork 6 (.fork 7 (.fork 8 .done .stop) (.fork 8 (.fork 7 .done .stop) .stop)) (.fork 8 (.fork 6 (.fork 7 .done .stop) .stop) .stop)) .stop) .stop) .stop)) (.fork 3 (.fork 2 (.fork 4 (.fork 5 (.fork 6 (.fork 7 (.fork 8 .done .stop) (.fork 8 (.fork 7 .done .stop) .stop)) (.fork 8 (.fork 6 (.fork 7 .done .stop) .stop) .stop)) .stop) .stop) (.fork 4 (.fork 2 (.fork 5 (.fork 6 (.fork 7 (.fork 8 .done .stop) (.fork 8 (.fork 7 .done .stop) .stop)) (.fork 8 (.fork 6 (.fork 7 .done .stop) .stop) .stop)) .stop) .stop) .stop)) (.fork 4 (.fork 2 (.fork 3 (.fork 5 (.fork 6 (.fork 7 (.fork 8 .done .stop) (.fork 8 (.fork 7 .done .stop) .stop)) (.fork 8 (.fork 6 (.fork 7 .done .stop) .stop) .stop)) .stop) .stop) (.fork 3 (.fork 2 (.fork 5 (.fork 6 (.fork 7 (.fork 8 .done .stop) (.fork 8 (.fork 7 .done .stop) .stop)) (.fork 8 (.fork 6 (.fork 7 .done .stop) .stop) .stop)) .stop) .stop) .stop)) .stop))) (.fork 2 (.fork 0 (.fork 3 (.fork 4 (.fork 5 (.fork 6 (.fork 7 (.fork 8 .done .stop) (.fork 8 (.fork 7 .done .stop) .stop)) (.fork 8 (.fork 6 (.fork 7 .done .stop) .stop) .stop)) .stop) .stop) (.fork 4 (.fork 3 (.fork 5 (.fork 6 (.fork 7 (.fork 8 .done .stop) (.fork 8 (.fork 7 .done .stop) .stop)) (.fork 8 (.fork 6 (.fork 7 .done .stop) .stop) .stop)) .stop) .stop) .stop)) (.fork 4 (.fork 0 (.fork 3 (.fork 5 (.fork 6 (.fork 7 (.fork 8 .done .stop) (.fork 8 (.fork 7 .done .stop) .stop)) (.fork 8 (.fork 6 (.fork 7 .done .stop) .stop) .stop)) .stop) .stop) .stop) .stop)) (.fork 4 (.fork 0 (.fork 2 (.fork 3 (.fork 5 (.fork 6 (.fork 7 (.fork 8 .done .stop) (.fork 8 (.fork 7 .done .stop) .stop)) (.fork 8 (.fork 6 (.fork 7 .done .stop) .stop) .stop)) .stop) .stop) (.fork 3 (.fork 2 (.fork 5 (.fork 6 (.fork 7 (.fork 8 .done .stop) (.fork 8 (.fork 7 .done .stop) .stop)) (.fork 8 (.fork 6 (.fork 7 .done .stop) .stop) .stop)) .stop) .stop) .stop)) (.fork 2 (.fork 0 (.fork 3 (.fork 5 (.fork 6 (.fork 7 (.fork 8 .done .stop) (.fork 8 (.fork 7 .done .stop) .stop)) (.fork 8 (.fork 6 (.fork 7 .done .stop) .stop) .stop)) .stop) .stop) .stop) .stop)) .stop)))) ?tree10 ?rest10
          case tree10 =>
            refine awTree.tk ?_
            refine awTree.fA ?_ ?_
            · refine awTree.fA ?_ ?_
              · refine awTree.fA ?_ ?_
                · refine awTree.fK ?_ ?_
                  · refine awTree.fA ?_ ?_
                    · refine awTree.fA ?_ ?_
                      · refine awTree.fA ?_ ?_
                        · refine awTree.fA ?_ ?_
                          · exact awTree.dn
                          · exact trivial
                        · refine awTree.fA ?_ ?_
                          · refine awTree.fA ?_ ?_
                            · exact awTree.dn
                            · exact trivial
                          · exact trivial
                      · refine awTree.fA ?_ ?_
                        · refine awTree.fA ?_ ?_
                          · refine awTree.fA ?_ ?_
                            · exact awTree.dn
                            · exact trivial
                          · exact trivial
                        · exact trivial
                    · exact trivial
                  · exact trivial
                · refine awTree.fK ?_ ?_
                  · refine awTree.fA ?_ ?_
                    · refine awTree.fA ?_ ?_
                      · refine awTree.fA ?_ ?_
                        · refine awTree.fA ?_ ?_
                          · refine awTree.fA ?_ ?_
                            · exact awTree.dn
                            · exact trivial
                          · refine awTree.fA ?_ ?_
                            · refine awTree.fA ?_ ?_
                              · exact awTree.dn
                              · exact trivial
                            · exact trivial
                        · refine awTree.fA ?_ ?_
                          · refine awTree.fA ?_ ?_
                            · refine awTree.fA ?_ ?_
                              · exact awTree.dn
                              · exact trivial
                            · exact trivial
                          · exact trivial
                      · exact trivial
                    · exact trivial
                  · exact trivial
              · refine awTree.fA ?_ ?_
                · refine awTree.fA ?_ ?_
                  · refine awTree.fK ?_ ?_
                    · refine awTree.fA ?_ ?_
                      · refine awTree.fA ?_ ?_
                        · refine awTree.fA ?_ ?_
                          · refine awTree.fA ?_ ?_
                            · exact awTree.dn
                            · exact trivial
                          · refine awTree.fA ?_ ?_
                            · refine awTree.fA ?_ ?_
                              · exact awTree.dn
                              · exact trivial
                            · exact trivial
                        · refine awTree.fA ?_ ?_
                          · refine awTree.fA ?_ ?_
                            · refine awTree.fA ?_ ?_
                              · exact awTree.dn
                              · exact trivial
                            · exact trivial
                          · exact trivial
                      · exact trivial
                    · exact trivial
                  · refine awTree.fK ?_ ?_
                    · refine awTree.fA ?_ ?_
                      · refine awTree.fA ?_ ?_
                        · refine awTree.fA ?_ ?_
                          · refine awTree.fA ?_ ?_
                            · refine awTree.fA ?_ ?_
                              · exact awTree.dn
                              · exact trivial
                            · refine awTree.fA ?_ ?_
                              · refine awTree.fA ?_ ?_
                                · exact awTree.dn
                                · exact trivial
                              · exact trivial
                          · refine awTree.fA ?_ ?_
                            · refine awTree.fA ?_ ?_
                              · refine awTree.fA ?_ ?_
                                · exact awTree.dn
                                · exact trivial
                              · exact trivial
                            · exact trivial
                        · exact trivial
                      · exact trivial
                    · exact trivial
                · refine awTree.fK ?_ ?_
                  · refine awTree.fA ?_ ?_
                    · refine awTree.fA ?_ ?_
                      · refine awTree.fA ?_ ?_
                        · refine awTree.fA ?_ ?_
                          · refine awTree.fA ?_ ?_
                            · refine awTree.fA ?_ ?_
                              · exact awTree.dn
                              · exact trivial
                            · refine awTree.fA ?_ ?_
                              · refine awTree.fA ?_ ?_
                                · exact awTree.dn
                                · exact trivial
                              · exact trivial
                          · refine awTree.fA ?_ ?_
                            · refine awTree.fA ?_ ?_
                              · refine awTree.fA ?_ ?_
                                · exact awTree.dn
                                · exact trivial
                              · exact trivial
                            · exact trivial
                        · exact trivial
                      · exact trivial
                    · refine awTree.fA ?_ ?_
                      · refine awTree.fA ?_ ?_
                        · refine awTree.fA ?_ ?_
                          · refine awTree.fA ?_ ?_
                            · refine awTree.fA ?_ ?_
                              · refine awTree.fA ?_ ?_
                                · exact awTree.dn
                                · exact trivial
                              · refine awTree.fA ?_ ?_
                                · refine awTree.fA ?_ ?_
                                  · exact awTree.dn
                                  · exact trivial
                                · exact trivial
                            · refine awTree.fA ?_ ?_
                              · refine awTree.fA ?_ ?_
                                · refine awTree.fA ?_ ?_
                                  · exact awTree.dn
                                  · exact trivial
                                · exact trivial
                              · exact trivial
                          · exact trivial
                        · exact trivial
                      · exact trivial
                  · exact trivial
            · refine awTree.fA ?_ ?_
              · refine awTree.fA ?_ ?_
                · refine awTree.fA ?_ ?_
                  · refine awTree.fK ?_ ?_
                    · refine awTree.fA ?_ ?_
                      · refine awTree.fA ?_ ?_
                        · refine awTree.fA ?_ ?_
                          · refine awTree.fA ?_ ?_
                            · exact awTree.dn
                            · exact trivial
                          · refine awTree.fA ?_ ?_
                            · refine awTree.fA ?_ ?_
                              · exact awTree.dn
                              · exact trivial
                            · exact trivial
                        · refine awTree.fA ?_ ?_
                          · refine awTree.fA ?_ ?_
                            · refine awTree.fA ?_ ?_
                              · exact awTree.dn
                              · exact trivial
                            · exact trivial
                          · exact trivial
                      · exact trivial
                    · exact trivial
                  · refine awTree.fK ?_ ?_
                    · refine awTree.fA ?_ ?_
                      · refine awTree.fA ?_ ?_
                        · refine awTree.fA ?_ ?_
                          · refine awTree.fA ?_ ?_
                            · refine awTree.fA ?_ ?_
                              · exact awTree.dn
                              · exact trivial
                            · refine awTree.fA ?_ ?_
                              · refine awTree.fA ?_ ?_
                                · exact awTree.dn
                                · exact trivial
                              · exact trivial
                          · refine awTree.fA ?_ ?_
                            · refine awTree.fA ?_ ?_
                              · refine awTree.fA ?_ ?_
                                · exact awTree.dn
                                · exact trivial
                              · exact trivial
                            · exact trivial
                        · exact trivial
                      · exact trivial
                    · exact trivial
                · refine awTree.fK ?_ ?_
                  · refine awTree.fA ?_ ?_
                    · refine awTree.fA ?_ ?_
                      · refine awTree.fA ?_ ?_
                        · refine awTree.fA ?_ ?_
                          · refine awTree.fA ?_ ?_
                            · refine awTree.fA ?_ ?_
                              · exact awTree.dn
                              · exact trivial
                            · refine awTree.fA ?_ ?_
                              · refine awTree.fA ?_ ?_
                                · exact awTree.dn
                                · exact trivial
                              · exact trivial
                          · refine awTree.fA ?_ ?_
                            · refine awTree.fA ?_ ?_
                              · refine awTree.fA ?_ ?_
                                · exact awTree.dn
                                · exact trivial
                              · exact trivial
                            · exact trivial
                        · exact trivial
                      · exact trivial
                    · exact trivial
                  · exact trivial
              · refine awTree.fK ?_ ?_
                · refine awTree.fA ?_ ?_
                  · refine awTree.fA ?_ ?_
                    · refine awTree.fA ?_ ?_
                      · refine awTree.fA ?_ ?_
                        · refine awTree.fA ?_ ?_
                          · refine awTree.fA ?_ ?_
                            · refine awTree.fA ?_ ?_
                              · exact awTree.dn
                              · exact trivial
                            · refine awTree.fA ?_ ?_
                              · refine awTree.fA ?_ ?_
                                · exact awTree.dn
                                · exact trivial
                              · exact trivial
                          · refine awTree.fA ?_ ?_
                            · refine awTree.fA ?_ ?_
                              · refine awTree.fA ?_ ?_
                                · exact awTree.dn
                                · exact trivial
                              · exact trivial
                            · exact trivial
                        · exact trivial
                      · exact trivial
                    · refine awTree.fA ?_ ?_
                      · refine awTree.fA ?_ ?_
                        · refine awTree.fA ?_ ?_
                          · refine awTree.fA ?_ ?_
                            · refine awTree.fA ?_ ?_
                              · refine awTree.fA ?_ ?_
                                · exact awTree.dn
                                · exact trivial
                              · refine awTree.fA ?_ ?_
                                · refine awTree.fA ?_ ?_
                                  · exact awTree.dn
                                  · exact trivial
                                · exact trivial
                            · refine awTree.fA ?_ ?_
                              · refine awTree.fA ?_ ?_
                                · refine awTree.fA ?_ ?_
                                  · exact awTree.dn
                                  · exact trivial
                                · exact trivial
                              · exact trivial
                          · exact trivial
                        · exact trivial
                      · exact trivial
                  · refine awTree.fA ?_ ?_
                    · refine awTree.fA ?_ ?_
                      · refine awTree.fA ?_ ?_
                        · refine awTree.fA ?_ ?_
                          · refine awTree.fA ?_ ?_
                            · refine awTree.fA ?_ ?_
                              · refine awTree.fA ?_ ?_
                                · exact awTree.dn
                                · exact trivial
                              · refine awTree.fA ?_ ?_
                                · refine awTree.fA ?_ ?_
                                  · exact awTree.dn
                                  · exact trivial
                                · exact trivial
                            · refine awTree.fA ?_ ?_
                              · refine awTree.fA ?_ ?_
                                · refine awTree.fA ?_ ?_
                                  · exact awTree.dn
                                  · exact trivial
                                · exact trivial
                              · exact trivial
                          · exact trivial
                        · exact trivial
                      · exact trivial
                    · exact trivial
                · exact trivial
          case rest10 =>
            refine ⟨none, rfl, ⟨55, [], [(0, .cells [.map 1]), (1, mapOf KI VI (netL l)), (2, .cells [.map 3]), (3, setOf (fun n => AV.int .i64 n) (reachStp l s1 o1).1.1), (4, .cells [.row 7 0 ((reachStp l s1 o1).1.2).length]), (5, .cells (Pob.cells el)), (7, .row 6 (objsAV (reachStp l s1 o1).1.2) true), (6, .lp lq rb)], 8, gl, 7, []⟩, ?_, rfl, by simp only [go_sem, seval], rfl, rfl, rfl⟩
            refine St.le.vx [0, 1, 2, 3, 4, 5, 6, 10] (hpre := (by decide : ∀ i, i < 7 → nth [0, 1, 2, 3, 4, 5, 6, 10] i = some i)) ?_
            simp [reachStp, hb1, objsAV_map]
            rw [← objsAV_map]
            generalize (leadI l o1).obj = oo
            cases oo
            rfl
      · have hlast := walkR_last (reach_last l) (Pob.pre el) (s.1, td)
        refine ⟨⟨_, hh.1⟩, none, ?_, rfl, ?_, hh.2.2⟩
        · rw [hh.2.1, hlast]; rfl
        · rw [hpop]; exact ⟨_, _, hh.2.1⟩
    · rintro j hp' nx' ⟨rfl, ⟨rl, lq, rfl⟩, rfl⟩
      refine ⟨by simp only [go_sem, seval], ?_⟩
      refine ⟨⟨(ps, el), hpj, hpk⟩, ?_, hmm⟩
      exact St.le.vw [0, 1, 2, 3, 4, 9, 6] (hpre := (by decide : ∀ i, i < 1 → nth [0, 1, 2, 3, 4, 9, 6] i = some i))
  · intro h15
    refine AWT.exit ?_
    refine AWT.rS ?_
    refine AWT.pre (σ' := ⟨55, [(4, .map 1)], [(0, mapOf KI VI (netL l)), (1, setOf (fun n => AV.int .i64 n) (reachS l o))], 2, gl, 1, []⟩) ?_ ?_
    · rw [← reachJ_end hj (by omega)]
      exact St.le.vw [0, 3] (hpre := (by decide : ∀ i, i < 1 → nth [0, 3] i = some i))
    · refine AWT.rt ?_
      trivial
end Go.Proofs

namespace Aw
open Go
theorem nums_nodup {l : List Itm} (h : incrN l) : (l.map (·.num)).Nodup := by
  rw [incrN_iff] at h
  unfold List.Nodup
  rw [List.pairwise_map]
  exact h.imp fun h => Int.ne_of_lt h
theorem items_len {d : Dc} (h : docE d = 0) : d.items.length ≤ 8192 := by
  have h1 := nodup_le (nums_nodup (items_incr (docE_items h))) (b := (List.range 8192).map Int.ofNat) (fun x hx => by
    obtain ⟨i, hi, rfl⟩ := List.mem_map.1 hx
    have := items_num h i hi
    exact List.mem_map.2 ⟨i.num.toNat, by rw [List.mem_range]; omega, by show (i.num.toNat : Int) = i.num; omega⟩)
  simpa using h1
theorem items_bulk {d : Dc} {k : Nat} (h : d.bulk ≤ k) : ∀ i ∈ d.items, i.obj.bulk ≤ k := fun i hi =>
  allL_bulk (n := i.num) (List.mem_cons_of_mem _ (List.mem_map.2 ⟨i, hi, rfl⟩)) h
theorem reachF_inv {l : List Itm} : ∀ (f : Nat) (s : List Int × List Pob), reachI l s → (reachF l f s).Nodup ∧ ∀ n ∈ reachF l f s, n ∈ l.map (·.num)
  | 0, s, h => ⟨h.1, h.2.1⟩
  | f + 1, s, h => by
    simp only [reachF]
    split
    · exact reachF_inv f _ (popS_inv h)
    · exact ⟨h.1, h.2.1⟩
theorem reachS_inv (l : List Itm) (o : Pob) : (reachS l o).Nodup ∧ ∀ n ∈ reachS l o, n ∈ l.map (·.num) := reachF_inv _ _ (reachI_top l o)
theorem reachS_len (l : List Itm) (o : Pob) : (reachS l o).length ≤ l.length := by
  have := nodup_le (reachS_inv l o).1 (reachS_inv l o).2
  simpa using this
theorem nums_wf {d : Dc} (h : docE d = 0) : ∀ x ∈ d.items.map (·.num), 1 ≤ x ∧ x ≤ 8191 := by
  intro x hx
  obtain ⟨i, hi, rfl⟩ := List.mem_map.1 hx
  exact items_num h i hi
theorem reachS_wf {d : Dc} (h : docE d = 0) (o : Pob) : ∀ x ∈ reachS d.items o, 1 ≤ x ∧ x ≤ 8191 := fun x hx => nums_wf h x ((reachS_inv d.items o).2 x hx)
def fromP (d : Dc) (o : Pob) : List Int := if docE d = 0 ∧ chk o 1 = 0 then sortI (reachS d.items o) else []
/-- the numbers that are not met -/
def lostL (l : List Itm) (met : List Int) : List Int := (l.map (·.num)).filter fun n => !decide (n ∈ met)
def lostP (d : Dc) : List Int := if docE d = 0 then sortI (lostL d.items (reachS d.items d.trailer)) else []
def lostJ (l : List Itm) (met : List Int) (s : List (Int × Itm) × List Int) : Prop := (s.2 ++ (s.1.map Prod.fst).filter fun n => !decide (n ∈ met)).Perm (lostL l met)
theorem lostJ_top (l : List Itm) (met : List Int) : lostJ l met (netL l, []) := by
  unfold lostJ lostL netL
  simp only [List.nil_append, List.map_map]
  exact List.Perm.refl _
theorem lostL_nodup {l : List Itm} (h : incrN l) (met : List Int) : (lostL l met).Nodup := (nums_nodup h).filter _
theorem lostJ_met {l : List Itm} {met : List Int} {l1 l2 : List (Int × Itm)} {p : Int × Itm} {s : List Int} (h : lostJ l met (l1 ++ p :: l2, s)) (hm : p.1 ∈ met) : lostJ l met (l1 ++ l2, s) := by
  unfold lostJ at h ⊢
  simpa [List.filter_append, List.filter_cons, hm] using h
theorem lostJ_new {l : List Itm} {met : List Int} {l1 l2 : List (Int × Itm)} {p : Int × Itm} {s : List Int} (hl : incrN l) (h : lostJ l met (l1 ++ p :: l2, s)) (hm : ¬ p.1 ∈ met) : lostJ l met (l1 ++ l2, setAdd s p.1) := by
  have hn := h.nodup_iff.2 (lostL_nodup hl met)
  unfold lostJ at h ⊢
  have hs : ¬ p.1 ∈ s := by
    intro hs
    rw [List.nodup_append] at hn
    exact hn.2.2 _ hs p.1 (by simp [hm]) rfl
  rw [setAdd, if_neg hs]
  refine List.Perm.trans ?_ h
  simp only [List.map_append, List.filter_append, List.map_cons, List.filter_cons, hm, decide_false, Bool.not_false, if_true]
  rw [List.append_assoc, List.singleton_append]
  exact List.Perm.append_left _ (List.perm_middle.symm : (p.1 :: _).Perm _)
theorem sortI_perm {a b : List Int} (h : a.Perm b) : sortI a = sortI b := by
  refine List.Perm.eq_of_pairwise (le := fun x y => x ≤ y) (fun x y _ _ h1 h2 => Int.le_antisymm h1 h2) (sortI_pairwise a) (sortI_pairwise b) ?_
  unfold sortI
  exact (List.mergeSort_perm a _).trans (h.trans (List.mergeSort_perm b _).symm)
theorem lostJ_end {l : List Itm} {met s : List Int} (h : lostJ l met ([], s)) : sortI s = sortI (lostL l met) := sortI_perm (by simpa [lostJ] using h)
theorem lostJ_sub {l : List Itm} {met : List Int} {s : List (Int × Itm) × List Int} (h : lostJ l met s) : ∀ x ∈ s.2, x ∈ l.map (·.num) := fun _ hx =>
  (List.mem_filter.1 (h.subset (List.mem_append_left _ hx))).1
theorem lostJ_len {l : List Itm} {met : List Int} {s : List (Int × Itm) × List Int} (h : lostJ l met s) : s.2.length ≤ l.length := by
  have h1 := h.length_eq
  have h2 := List.length_filter_le (fun n => !decide (n ∈ met)) (l.map (·.num))
  simp only [List.length_append, lostL, List.length_map] at h1 h2
  omega
end Aw

namespace Go.Proofs
open Go Aw
set_option linter.unusedSimpArgs false
set_option linter.unusedVariables false
set_option maxRecDepth 100000
set_option maxHeartbeats 1000000
attribute [local go_sem ↓ high] noTBm_net
attribute [local go_sem] mres netL_nil
theorem c_graph_Lost (gl : List (Nat × AV)) (d : Dc) (h : d.bulk ≤ 16777216) : FnP Try.prog gl 10 [.agg d.cells] fun r => r = .ret (.sl (intsAV (lostP d))) := by
  refine FnP.introM Try.func10 rfl rfl (by simp [Try.ntmps10]) (by rintro q rfl; exact ⟨_, rfl⟩) ?_
  intro B_
  simp only [argEnv, Try.ntmps10, Try.results10]
  refine AWT.rS ?_
  refine AWT.rSC ?_
  by_cases hv : docE d = 0
  · have hinc := items_incr (docE_items hv)
    have hlen := items_len hv
    refine OpsT.cN [] (FnT.ofH (h_graph_of _ d hv h)) ?_
    refine OpsT.rn ?_
    refine OpsT.nil ?_
    refine AWT.seq ?_
    refine AWT.rS ?_
    refine AWT.c2 ?_ ?_
    · intro h17
      simp at h17
    · intro _
      refine AWT.skip ?_
      refine AWT.rSC ?_
      refine OpsT.cN [1] (h_graph_reach _ d.items d.trailer (Nat.le_trans hlen (by omega)) (items_bulk h) (Nat.le_trans (Nat.le_add_left _ _) h)) ?_
      refine OpsT.rn ?_
      refine OpsT.nil ?_
      refine AWT.rSC ?_
      refine OpsT.cs (awGuard.mkS (keyOk_int .i64) ?_)
      refine OpsT.rn ?_
      refine OpsT.nil ?_
      refine AWT.seq ?_
      refine AWT.pC 3 ?_
      refine AWT.trim [3, 5, 6] ?_
      refine AWT.rSC ?_
      refine OpsT.cs (awGuard.rgM ?_)
      refine OpsT.rn ?_
      refine OpsT.nil ?_
      refine AWT.block ?_
      generalize hmet : reachS d.items d.trailer = met
      refine AWT.lk (S := { p : (List (Int × Itm) × List Int) × Option (Int × Itm) // lostJ d.items met p.1 }) [5, 6, 21] (fun s_ => []) (fun s_ => [(2, setOf (fun n => AV.int .i64 n) met), (3, setOf (fun n => AV.int .i64 n) s_.1.1.2), (4, itOf KI VI s_.1.1.1 s_.1.2)]) 5 (fun s_ => s_.1.1.1.length) ⟨((netL d.items, []), none), lostJ_top d.items met⟩ ?_ ?_
      · exact St.le.vw [0, 1, 2, 3, 4] (hpre := (by decide : ∀ i, i < 0 → nth [0, 1, 2, 3, 4] i = some i))
      rintro ⟨⟨⟨rem, lost⟩, cur⟩, hj⟩
      dsimp only at hj ⊢
      refine AWT.rSC ?_
      refine OpsT.cs (awGuard.nxM (fun e0 => ?_) (fun l1 p l2 e1 => ?_))
      · subst e0
        refine OpsT.rn ?_
        refine OpsT.nil ?_
        refine AWT.seq ?_
        refine AWT.c2 ?_ ?_
        · intro h22
          simp at h22
        · intro _
          refine AWT.exit ?_
          refine AWT.rSC ?_
          refine OpsT.cN [3] (h_graph_rising _ lost (fun x hx => litwf (nums_wf hv x (lostJ_sub hj x hx))) (Nat.le_trans (lostJ_len hj) (Nat.le_trans hlen (by omega)))) ?_
          refine OpsT.rn ?_
          refine OpsT.nil ?_
          refine AWT.rt ?_
          rw [lostP, if_pos hv, hmet, ← lostJ_end hj]
      · subst e1
        refine OpsT.rn ?_
        refine OpsT.nil ?_
        refine AWT.seq ?_
        refine AWT.c2 ?_ ?_
        · intro _
          refine AWT.skip ?_
          refine AWT.block ?_
          refine AWT.rSC ?_
          refine OpsT.cs (awGuard.enM ?_)
          refine OpsT.rn ?_
          refine OpsT.nil ?_
          refine AWT.rSC ?_
          refine OpsT.cs (awGuard.lkS (keyOk_int .i64) ?_)
          refine OpsT.rn ?_
          refine OpsT.nil ?_
          refine AWT.c2 ?_ ?_
          · intro h27
            have hm : ¬ p.1 ∈ met := by simpa using h27
            refine AWT.rLC ?_
            refine OpsT.cs (awGuard.upS (keyOk_int .i64) ?_)
            refine OpsT.rn ?_
            refine OpsT.nil ?_
            refine ⟨⟨((l1 ++ l2, setAdd lost p.1), some p), lostJ_new hinc hj hm⟩, ?_, by simp⟩
            exact St.le.vw [0, 1, 2, 3, 4] (hpre := (by decide : ∀ i, i < 0 → nth [0, 1, 2, 3, 4] i = some i))
          · intro h27
            have hm : p.1 ∈ met := by simpa using h27
            refine AWT.skip ?_
            refine ⟨⟨((l1 ++ l2, lost), some p), lostJ_met hj hm⟩, ?_, by simp⟩
            exact St.le.vw [0, 1, 2, 3, 4] (hpre := (by decide : ∀ i, i < 0 → nth [0, 1, 2, 3, 4] i = some i))
        · intro h22
          simp at h22
  · refine OpsT.cs (awGuard.c1 (c_graph_of_bad _ d hv h) ?_)
    refine OpsT.rn ?_
    refine OpsT.nil ?_
    refine AWT.seq ?_
    refine AWT.rS ?_
    refine AWT.c2 ?_ ?_
    · intro _
      refine AWT.rS ?_
      refine AWT.rt ?_
      rw [lostP, if_neg hv]
      first | trivial | rfl
    · intro h17
      simp at h17
end Go.Proofs

namespace Go.Proofs
open Go Aw
set_option linter.unusedSimpArgs false
set_option linter.unusedVariables false
set_option maxRecDepth 100000
set_option maxHeartbeats 1000000
attribute [local go_sem ↓ high] noTBm_net
attribute [local go_sem] mres netL_nil
theorem c_graph_From (gl : List (Nat × AV)) (d : Dc) (o : Pob) (h : d.bulk ≤ 16777216) (ho : o.bulk ≤ 16777216) : FnP Try.prog gl 13 [.agg d.cells, .agg o.cells] fun r => r = .ret (.sl (intsAV (fromP d o))) := by
  refine FnP.introM Try.func13 rfl rfl (by simp [Try.ntmps13]) (by rintro q rfl; exact ⟨_, rfl⟩) ?_
  intro B_
  simp only [argEnv, Try.ntmps13, Try.results13]
  refine AWT.rS ?_
  refine AWT.rSC ?_
  by_cases hv : docE d = 0
  · refine OpsT.cN [] (FnT.ofH (h_graph_of _ d hv h)) ?_
    refine OpsT.rn ?_
    refine OpsT.nil ?_
    refine AWT.seq ?_
    refine AWT.rSC ?_
    refine OpsT.cs (awGuard.cG (fun hg => c_value_Check _ o ho) ?_)
    refine OpsT.rn ?_
    refine OpsT.nil ?_
    refine AWT.c2 ?_ ?_
    · intro h17
      have hc : ¬ chk o 1 = 0 := by simpa using h17
      refine AWT.rS ?_
      refine AWT.rt ?_
      rw [fromP, if_neg (fun e => hc e.2)]
      first | trivial | rfl
    · intro h17
      have hc : chk o 1 = 0 := by simpa using h17
      refine AWT.skip ?_
      refine AWT.rSC ?_
      refine OpsT.cN [2] (h_graph_reach _ d.items o (Nat.le_trans (items_len hv) (by omega)) (items_bulk h) ho) ?_
      refine OpsT.rn ?_
      refine OpsT.cN [3] (h_graph_rising _ (reachS d.items o) (fun x hx => litwf (reachS_wf hv _ x hx)) (Nat.le_trans (reachS_len d.items o) (Nat.le_trans (items_len hv) (by omega)))) ?_
      refine OpsT.rn ?_
      refine OpsT.nil ?_
      refine AWT.rt ?_
      rw [fromP, if_pos ⟨hv, hc⟩]
  · refine OpsT.cs (awGuard.c1 (c_graph_of_bad _ d hv h) ?_)
    refine OpsT.rn ?_
    refine OpsT.nil ?_
    refine AWT.seq ?_
    refine AWT.rSC ?_
    refine OpsT.cs (awGuard.cG (fun hg => c_value_Check _ o ho) ?_)
    refine OpsT.rn ?_
    refine OpsT.nil ?_
    refine AWT.c2 ?_ ?_
    · intro _
      refine AWT.rS ?_
      refine AWT.rt ?_
      rw [fromP, if_neg (fun e => hv e.1)]
      first | trivial | rfl
    · intro h17
      simp at h17
theorem c_graph_Reach (gl : List (Nat × AV)) (d : Dc) (h : d.bulk ≤ 16777216) : FnP Try.prog (gl) 9 [.agg d.cells] fun r => r = .ret (.sl (intsAV (fromP d d.trailer))) := by
  refine FnP.intro Try.func9 rfl rfl (by simp [Try.ntmps9]) ?_
  simp only [argEnv, Try.ntmps9, Try.results9]
  refine AW.rS ?_
  refine AW.rSC ?_
  refine awOps.cons (awGuard.c1 (c_graph_From _ d d.trailer h (Nat.le_trans (Nat.le_add_left _ _) h)) ?_)
  refine awOps.rn ?_
  refine AW.rt ?_
  all_goals first | contradiction | rfl | (simp; done) | (simp; omega)
end Go.Proofs

namespace Aw
open Go
end Aw

set_option linter.unusedVariables false
namespace Aw
open Go
end Aw

set_option linter.unusedVariables false
set_option linter.unusedSimpArgs false
namespace Aw
open Go
/-! a key less -/
/-! a key put -/
/-! numbers in order -/
def nplace (l : List Int) (n : Int) : Nat := l.findIdx (fun x => !decide (x < n))
def numIns (l : List Int) (n : Int) : List Int := if nplace l n < l.length ∧ l.getD (nplace l n) 0 = n then l else l.take (nplace l n) ++ [n] ++ l.drop (nplace l n)
def kidR (ks : List Pob) (s : List Int) : List Int := ks.foldl (fun s k => (refsO k).foldl numIns s) s
theorem bulks_takele (l : List Pob) (i : Nat) : bulks (l.take i) ≤ bulks l := by
  have := bulks_append (l.take i) (l.drop i)
  rw [List.take_append_drop] at this
  omega
end Aw

namespace Aw
open Go
mutual
/-- foliantref29.Refs -/
def Pob.rr : Pob → List Pob
  | .mk k n g s ks l => if k = 8 then [.mk k n g s ks l] else rrs l
def rrs : List Pob → List Pob
  | [] => []
  | o :: l => o.rr ++ rrs l
end
theorem rr_eq (o : Pob) : o.rr = if o.kind = 8 then [o] else rrs o.kids := by cases o; simp only [Pob.rr, Pob.kind, Pob.kids]; rfl
theorem rrs_append (a b : List Pob) : rrs (a ++ b) = rrs a ++ rrs b := by
  induction a with
  | nil => simp [rrs]
  | cons o a ih => simp [rrs, ih]
theorem rrs_take {l : List Pob} {i : Nat} (h : i < l.length) : rrs (l.take (i + 1)) = rrs (l.take i) ++ (l.getD i Pob.null).rr := by
  rw [List.take_add_one, rrs_append, List.getElem?_eq_getElem h]
  simp [rrs, List.getD, List.getElem?_eq_getElem h]
mutual
theorem rr_len : ∀ o : Pob, o.rr.length ≤ o.bulk
  | .mk k n g s ks l => by
    have := rrs_len l
    simp only [Pob.rr, Pob.bulk]
    split <;> simp <;> omega
theorem rrs_len : ∀ l : List Pob, (rrs l).length ≤ bulks l
  | [] => by simp [rrs]
  | o :: l => by
    have h1 := rr_len o
    have h2 := rrs_len l
    simp only [rrs, List.length_append, bulks]
    omega
end
theorem rrs_take_len (l : List Pob) (i : Nat) : (rrs (l.take i)).length ≤ bulks l := Nat.le_trans (rrs_len _) (bulks_takele l i)
/-- foliantref29.Leads: the first item of the number and generation -/
def leadR (l : List Itm) (r : Pob) : Option Itm := l.find? fun i => decide (i.num = r.num) && decide (i.gen = r.gen)
theorem any_hit {l : List Int} {n : Int} {i : Nat} (h : i < l.length) (hk : l.getD i 0 = n) : decide (n ∈ l) = true := by
  rw [decide_eq_true_iff]
  rw [← hk]
  simp [List.getD, List.getElem?_eq_getElem h]
theorem any_miss {l : List Int} {n : Int} (hs : ∀ j, j < l.length → l.getD j 0 ≠ n) : decide (n ∈ l) = false := by
  rw [decide_eq_false_iff_not]
  intro hm
  obtain ⟨j, hj, e⟩ := List.mem_iff_getElem.1 hm
  exact hs j hj (by simp [List.getD, List.getElem?_eq_getElem hj, e])
end Aw

set_option linter.unusedVariables false
set_option linter.unusedSimpArgs false
namespace Aw
open Go
/-! sizes -/
end Aw

namespace Go.Proofs
open Go Aw
set_option linter.unusedSimpArgs false
set_option linter.unusedVariables false
set_option maxRecDepth 100000
set_option maxHeartbeats 2000000

attribute [local go_sem] take_intsAV take_objsAV app_objsAV app1_objsAV
end Go.Proofs

namespace Go.Proofs
open Go Aw
set_option linter.unusedSimpArgs false
set_option linter.unusedVariables false
set_option maxRecDepth 100000
set_option maxHeartbeats 2000000

end Go.Proofs

namespace Go.Proofs
open Go Aw
set_option linter.unusedSimpArgs false
set_option linter.unusedVariables false
set_option maxRecDepth 100000
set_option maxHeartbeats 2000000
attribute [local go_sem] take_intsAV take_objsAV app_objsAV app1_objsAV
end Go.Proofs

namespace Go.Proofs
open Go Aw
set_option linter.unusedSimpArgs false
set_option linter.unusedVariables false
set_option maxRecDepth 100000
set_option maxHeartbeats 2000000
attribute [local go_sem] take_intsAV take_objsAV app_objsAV app1_objsAV
end Go.Proofs

namespace Go.Proofs
open Go Aw
set_option linter.unusedSimpArgs false
set_option linter.unusedVariables false
set_option maxRecDepth 100000
set_option maxHeartbeats 2000000
attribute [local go_sem] take_intsAV take_objsAV app_objsAV app1_objsAV
theorem kidR_zero (l : List Pob) (s : List Int) : kidR (l.take 0) s = s := rfl
theorem intsAV_one (n : Int) : intsAV [n] = [[.int .i64 n]] := rfl
attribute [local go_sem] kidR_zero intsAV_one
end Go.Proofs

namespace Go.Proofs
open Go Aw
set_option linter.unusedSimpArgs false
set_option linter.unusedVariables false
set_option maxRecDepth 100000
set_option maxHeartbeats 2000000
attribute [local go_sem] take_intsAV take_objsAV app_objsAV app1_objsAV
end Go.Proofs

namespace Go.Proofs
open Go Aw
set_option linter.unusedSimpArgs false
set_option linter.unusedVariables false
set_option maxRecDepth 100000
set_option maxHeartbeats 2000000
attribute [local go_sem] take_intsAV take_objsAV app_objsAV app1_objsAV
theorem href_step (gl : List (Nat × AV)) (N : Nat) (hN : N ≤ 16777216) (ih : ∀ o' : Pob, o'.bulk < N → FnH Try.prog gl 15 [.agg o'.cells] [] 0 fun r h n => r = .ret (.row 1 0 o'.rr.length) ∧ h = [(1, .row 6 (objsAV o'.rr) true)] ∧ n = 2) (o : Pob) (ho : o.bulk ≤ N) : FnH Try.prog (gl) 15 [.agg o.cells] ([]) 0 (fun r h n => r = .ret (.row 1 0 o.rr.length) ∧ h = [(1, .row 6 (objsAV o.rr) true)] ∧ n = 2) := by
  refine FnH.intro Try.func15 rfl rfl (by simp [Try.ntmps15]) ?_
  simp only [argEnv, Try.ntmps15, Try.results15]
  have hb := Pob.bulk_eq o
  have hre := rr_eq o
  refine AW.rS ?_
  refine AW.seq ?_
  refine AW.rS ?_
  refine AW.c2 ?_ ?_
  · intro h4
    have hr1 : o.rr = [o] := by rw [hre, if_pos h4]
    refine AW.rS ?_
    refine AW.vw [0, 1] [(2, .row 1 0 1)] [(1, .row 6 [o.cells] true)] ?_
    refine AW.rt ?_
    rw [hr1]
    cases o
    exact ⟨rfl, rfl⟩
  · intro h4
    have hr1 : o.rr = rrs o.kids := by rw [hre, if_neg h4]
    refine AW.skip ?_
    refine AW.rS ?_
    refine AW.seq ?_
    refine AW.rS ?_
    refine AW.block ?_
    refine AW.pre (St.le.nilrow 3 6 (by (simp only [go_sem, seval]; try (simp (disch := omega) only [zq]; try (simp only [go_sem, seval]; try (simp (disch := omega) only [zq]; try simp only [go_sem, seval])))))) ?_
    refine wk ?_
    refine AW.lk (S := { i : Nat // i ≤ o.kids.length }) [12, 13] (fun s_ => [(3, .row 1 0 (rrs (o.kids.take s_.1)).length), (14, .int .i64 s_.1)]) (fun s_ => [(0, .cells o.cells), (1, .row 6 (objsAV (rrs (o.kids.take s_.1))) true)]) 2 (fun s_ => o.kids.length - s_.1) ⟨0, Nat.zero_le _⟩ ?_ ?_
    · refine St.le.vw [0, 1]
    rintro ⟨i, hi⟩
    try dsimp only at hi
    refine AW.rS ?_
    refine AW.seq ?_
    refine AW.c2 ?_ ?_
    · intro h16
      have hkb := Pob.bulk_kid (o := o) (i := i) (by omega)
      have hrl := rr_len (o.kids.getD i Pob.null)
      have htl := rrs_take_len o.kids i
      have hts := rrs_take (l := o.kids) (i := i) (by omega)
      have hf2 := congrArg List.length hts
      rw [List.length_append] at hf2
      refine AW.skip ?_
      refine AW.seq ?_
      refine AW.block ?_
      refine AW.rS ?_
      refine AW.rLC ?_
      refine awOps.cons (awGuard.cH [] (ih (o.kids.getD i Pob.null) (Nat.lt_of_lt_of_le hkb ho)) ?_)
      refine awOps.rn ?_
      refine AW.rL ?_
      refine ⟨⟨i + 1, by omega⟩, ?_, ?_⟩
      · refine St.le.vx [0, 5] ?_
        rw [hts]
      · simp only []; omega
    · intro h16
      refine AW.exit ?_
      refine AW.rS ?_
      obtain rfl : i = o.kids.length := by omega
      rw [List.take_length, ← hr1]
      refine AW.vw [0, 1] [(2, .row 1 0 o.rr.length)] [(1, .row 6 (objsAV o.rr) true)] ?_
      refine AW.rt ?_
      trivial
theorem href_all (gl : List (Nat × AV)) (N : Nat) : N ≤ 16777216 → ∀ o : Pob, o.bulk ≤ N → FnH Try.prog gl 15 [.agg o.cells] [] 0 fun r h n => r = .ret (.row 1 0 o.rr.length) ∧ h = [(1, .row 6 (objsAV o.rr) true)] ∧ n = 2 := by
  induction N using Nat.strongRecOn with
  | ind N IH => exact fun hN o ho => href_step gl N hN (fun o' h => IH o'.bulk h (by omega) o' (Nat.le_refl _)) o ho
theorem h_foliantref29_Refs (gl : List (Nat × AV)) (o : Pob) (h : o.bulk ≤ 16777216) : FnH Try.prog gl 15 [.agg o.cells] [] 0 fun r h n => r = .ret (.row 1 0 o.rr.length) ∧ h = [(1, .row 6 (objsAV o.rr) true)] ∧ n = 2 := href_all gl 16777216 (Nat.le_refl _) o h
end Go.Proofs

namespace Aw
open Go
def usesR (d : Dc) (num : Int) (o : Pob) : Bool := o.rr.any fun x => (leadR d.items x).isSome && decide (((leadR d.items x).getD Itm.zero).num = num)
def userL (d : Dc) (num : Int) (l : List Itm) : List Int := (l.filter fun i => usesR d num i.obj).map (·.num)
def lostI (met : List Int) (l : List Itm) : List Int := (l.filter fun i => !decide (i.num ∈ met)).map (·.num)
def dangI (d : Dc) (l : List Pob) : List Int := (l.filter fun x => !(leadR d.items x).isSome).map (·.num)
end Aw

namespace Aw
open Go
end Aw

namespace Aw
open Go
theorem zero_bulk : Dc.zero.bulk = 1 := by simp [Dc.zero, Dc.bulk, ibulk, Pob.null, Pob.bulk, bulks]
theorem putO_bulk (d : Dc) (i : Itm) : (putO d i).bulk ≤ d.bulk + i.obj.bulk + 1 := by
  unfold putO
  split
  · rw [zero_bulk]; omega
  · have := layI_bulk d.items i
    simp only [Dc.bulk]
    omega
theorem addO_bulk (d : Dc) (o : Pob) : (addO d o).bulk ≤ d.bulk + o.bulk + 1 := by
  unfold addO
  split
  · rw [zero_bulk]; omega
  · exact putO_bulk d ⟨freeN d, 0, o⟩
end Aw

set_option linter.unusedVariables false
set_option linter.unusedSimpArgs false
namespace Aw
open Go
end Aw

namespace Go.Proofs
open Go Aw
set_option linter.unusedSimpArgs false
set_option linter.unusedVariables false
set_option maxRecDepth 100000
set_option maxHeartbeats 2000000
attribute [local go_sem] take_intsAV take_objsAV app_objsAV app1_objsAV
end Go.Proofs

namespace Go.Proofs
open Go Aw
set_option linter.unusedSimpArgs false
set_option linter.unusedVariables false
set_option maxRecDepth 100000
set_option maxHeartbeats 2000000
attribute [local go_sem] take_intsAV take_objsAV app_objsAV app1_objsAV
theorem userL_nil (d : Dc) (n : Int) : userL d n [] = [] := rfl
attribute [local go_sem] userL_nil
end Go.Proofs

namespace Go.Proofs
open Go Aw
set_option linter.unusedSimpArgs false
set_option linter.unusedVariables false
set_option maxRecDepth 100000
set_option maxHeartbeats 4000000
attribute [local go_sem] take_intsAV take_objsAV app_objsAV app1_objsAV
end Go.Proofs

namespace Aw
open Go
def inS (l : List Itm) (s : List Int) (r : Pob) : Prop := ∀ i, leadR l r = some i → i.num ∈ s
/-- a set that holds all that is led to -/
def closedR (l : List Itm) (start : List Pob) (s : List Int) : Prop := (∀ r ∈ start, inS l s r) ∧ ∀ i ∈ l, i.num ∈ s → ∀ r ∈ i.obj.rr, inS l s r
def leastR (l : List Itm) (start : List Pob) (s : List Int) : Prop := closedR l start s ∧ ∀ s', closedR l start s' → ∀ n ∈ s, n ∈ s'
theorem leastR_one {l : List Itm} {start : List Pob} {a b : List Int} (ha : leastR l start a) (hb : leastR l start b) (n : Int) : n ∈ a ↔ n ∈ b := ⟨ha.2 b hb.1 n, hb.2 a ha.1 n⟩
def restR (l : List Itm) (met : List Int) : Nat := ((l.filter fun i => !decide (i.num ∈ met)).map fun i => i.obj.rr.length).sum
theorem restR_cons (x : Itm) (l : List Itm) (met : List Int) : restR (x :: l) met = (if x.num ∈ met then 0 else x.obj.rr.length) + restR l met := by
  unfold restR
  rw [List.filter_cons]
  by_cases h : x.num ∈ met <;> simp [h]
theorem restR_more (l : List Itm) (met : List Int) (n : Int) : restR l (met ++ [n]) ≤ restR l met := by
  induction l with
  | nil => simp [restR]
  | cons x l ih =>
    rw [restR_cons, restR_cons]
    by_cases h : x.num ∈ met
    · rw [if_pos (List.mem_append_left _ h), if_pos h]
      omega
    · rw [if_neg h]
      split <;> omega
theorem restR_add {l : List Itm} {met : List Int} {i : Itm} (hi : i ∈ l) (hn : ¬ i.num ∈ met) : restR l (met ++ [i.num]) + i.obj.rr.length ≤ restR l met := by
  induction l with
  | nil => cases hi
  | cons x l ih =>
    rw [restR_cons, restR_cons]
    rcases List.mem_cons.1 hi with rfl | hi
    · have := restR_more l met i.num
      rw [if_pos (by simp), if_neg hn]
      omega
    · have := ih hi
      by_cases h : x.num ∈ met
      · rw [if_pos (List.mem_append_left _ h), if_pos h]
        omega
      · rw [if_neg h]
        split <;> omega
theorem restR_le (l : List Itm) (met : List Int) : restR l met ≤ ibulk l := by
  induction l with
  | nil => simp [restR]
  | cons x l ih =>
    have := rr_len x.obj
    rw [restR_cons, ibulk_cons]
    split <;> omega
/-- in the midst of the search -/
structure FromJ (l : List Itm) (start : List Pob) (met : List Int) (todo : List Pob) : Prop where
  nd : met.Nodup
  sub : ∀ n ∈ met, n ∈ l.map (·.num)
  st : ∀ r ∈ start, inS l met r ∨ r ∈ todo
  it : ∀ i ∈ l, i.num ∈ met → ∀ r ∈ i.obj.rr, inS l met r ∨ r ∈ todo
  least : ∀ s', closedR l start s' → (∀ n ∈ met, n ∈ s') ∧ ∀ r ∈ todo, inS l s' r
  small : todo.length + restR l met ≤ 33554432
theorem leadR_mem {l : List Itm} {r : Pob} {i : Itm} (h : leadR l r = some i) : i ∈ l ∧ i.num = r.num ∧ i.gen = r.gen := by
  have h1 := List.mem_of_find?_eq_some h
  have h2 := List.find?_some h
  simp only [Bool.and_eq_true, decide_eq_true_eq] at h2
  exact ⟨h1, h2⟩
theorem FromJ.top (l : List Itm) (o : Pob) (h : o.rr.length + ibulk l ≤ 33554432) : FromJ l o.rr [] o.rr :=
  ⟨List.nodup_nil, fun _ h => absurd h List.not_mem_nil, fun _ h => .inr h, fun _ _ h => absurd h List.not_mem_nil, fun _ hs => ⟨fun _ h => absurd h List.not_mem_nil, hs.1⟩, by
    have := restR_le l []
    omega⟩
theorem FromJ.skip {l : List Itm} {start : List Pob} {met : List Int} {x : Pob} {todo : List Pob} (h : FromJ l start met (x :: todo)) (hx : inS l met x) : FromJ l start met todo := by
  refine ⟨h.nd, h.sub, fun r hr => ?_, fun i hi hm r hr => ?_, fun s' hs => ⟨(h.least s' hs).1, fun r hr => (h.least s' hs).2 r (List.mem_cons_of_mem _ hr)⟩, by have := h.small; simp only [List.length_cons] at this; omega⟩
  · rcases h.st r hr with g | g
    · exact .inl g
    · rcases List.mem_cons.1 g with rfl | g
      · exact .inl hx
      · exact .inr g
  · rcases h.it i hi hm r hr with g | g
    · exact .inl g
    · rcases List.mem_cons.1 g with rfl | g
      · exact .inl hx
      · exact .inr g
theorem inS_more {l : List Itm} {s : List Int} {r : Pob} (h : inS l s r) (n : Int) : inS l (s ++ [n]) r := fun i hi => List.mem_append_left _ (h i hi)
theorem FromJ.add {l : List Itm} {start : List Pob} {met : List Int} {x : Pob} {todo : List Pob} {i : Itm} (hl : incrN l) (h : FromJ l start met (x :: todo)) (hx : leadR l x = some i) (hn : ¬ i.num ∈ met) : FromJ l start (met ++ [i.num]) (todo ++ i.obj.rr) := by
  have hm := (leadR_mem hx).1
  have hin : inS l (met ++ [i.num]) x := fun j hj => by
    rw [hx] at hj
    injection hj with hj
    subst hj
    simp
  refine ⟨?_, fun n hn' => ?_, fun r hr => ?_, fun j hj hm' r hr => ?_, fun s' hs => ?_, ?_⟩
  · rw [List.nodup_append]
    refine ⟨h.nd, by simp, fun a ha b hb => ?_⟩
    simp only [List.mem_singleton] at hb
    subst hb
    intro e
    subst e
    exact hn ha
  · rcases List.mem_append.1 hn' with g | g
    · exact h.sub n g
    · simp only [List.mem_singleton] at g
      subst g
      exact List.mem_map.2 ⟨i, hm, rfl⟩
  · rcases h.st r hr with g | g
    · exact .inl (inS_more g _)
    · rcases List.mem_cons.1 g with rfl | g
      · exact .inl hin
      · exact .inr (List.mem_append_left _ g)
  · rcases List.mem_append.1 hm' with g | g
    · rcases h.it j hj g r hr with g | g
      · exact .inl (inS_more g _)
      · rcases List.mem_cons.1 g with rfl | g
        · exact .inl hin
        · exact .inr (List.mem_append_left _ g)
    · simp only [List.mem_singleton] at g
      have e : j = i := incr_one hl hj hm g
      subst e
      exact .inr (List.mem_append_right _ hr)
  · obtain ⟨h1, h2⟩ := h.least s' hs
    have hi : i.num ∈ s' := h2 x List.mem_cons_self i hx
    refine ⟨fun n hn' => ?_, fun r hr => ?_⟩
    · rcases List.mem_append.1 hn' with g | g
      · exact h1 n g
      · simp only [List.mem_singleton] at g
        subst g
        exact hi
    · rcases List.mem_append.1 hr with g | g
      · exact h2 r (List.mem_cons_of_mem _ g)
      · exact hs.2 i hm hi r g
  · have h1 := h.small
    have h2 := restR_add hm hn
    simp only [List.length_cons, List.length_append] at h1 ⊢
    omega
theorem FromJ.end {l : List Itm} {start : List Pob} {met : List Int} (h : FromJ l start met []) : leastR l start met :=
  ⟨⟨fun r hr => (h.st r hr).elim id (fun g => absurd g List.not_mem_nil), fun i hi hm r hr => (h.it i hi hm r hr).elim id (fun g => absurd g List.not_mem_nil)⟩, fun s' hs => (h.least s' hs).1⟩
theorem FromJ.len {l : List Itm} {start : List Pob} {met : List Int} {todo : List Pob} (h : FromJ l start met todo) : met.length ≤ l.length := by
  have := nodup_le h.nd h.sub
  simpa using this
end Aw

namespace Go.Proofs
open Go Aw
set_option linter.unusedSimpArgs false
set_option linter.unusedVariables false
set_option maxRecDepth 100000
set_option maxHeartbeats 4000000
attribute [local go_sem] take_intsAV take_objsAV app_objsAV app1_objsAV List.length_append List.length_cons List.length_nil List.length_drop List.length_take Nat.sub_zero
end Go.Proofs

namespace Go.Proofs
open Go Aw
set_option linter.unusedSimpArgs false
set_option linter.unusedVariables false
set_option maxRecDepth 100000
set_option maxHeartbeats 4000000
attribute [local go_sem] take_intsAV take_objsAV app_objsAV app1_objsAV
theorem lostI_nil (m : List Int) : lostI m [] = [] := rfl
attribute [local go_sem] lostI_nil
end Go.Proofs

namespace Go.Proofs
open Go Aw
set_option linter.unusedSimpArgs false
set_option linter.unusedVariables false
set_option maxRecDepth 100000
set_option maxHeartbeats 4000000
attribute [local go_sem] take_intsAV take_objsAV app_objsAV app1_objsAV
theorem dangI_nil (d : Dc) : dangI d [] = [] := rfl
attribute [local go_sem] dangI_nil List.length_append
end Go.Proofs

namespace Go.Proofs
open Go Aw
set_option linter.unusedSimpArgs false
set_option linter.unusedVariables false
set_option maxRecDepth 100000
set_option maxHeartbeats 1000000
attribute [local go_sem ↓ high] noTBm_net
attribute [local go_sem] mres netL_nil
theorem c_graph_Dangling (gl : List (Nat × AV)) (d : Dc) (h : d.bulk ≤ 16777216) : FnP Try.prog gl 16 [.agg d.cells] fun r => r = .ret (.sl (intsAV (danglingP d))) := by
  refine FnP.introM Try.func16 rfl rfl (by simp [Try.ntmps16]) (by rintro q rfl; exact ⟨_, rfl⟩) ?_
  intro B_
  simp only [argEnv, Try.ntmps16, Try.results16]
  have hbk : d.bulk = ibulk d.items + d.trailer.bulk := rfl
  refine AWT.rS ?_
  refine AWT.rSC ?_
  by_cases hv : docE d = 0
  · refine OpsT.cN [] (FnT.ofH (h_graph_of _ d hv h)) ?_
    refine OpsT.rn ?_
    refine OpsT.nil ?_
    refine AWT.seq ?_
    refine AWT.rS ?_
    refine AWT.c2 ?_ ?_
    · intro h17
      simp at h17
    · intro _
      refine AWT.skip ?_
      refine AWT.rSC ?_
      refine OpsT.cs (awGuard.mkS (keyOk_int .i64) ?_)
      refine OpsT.rn ?_
      refine OpsT.nil ?_
      refine AWT.seq ?_
      refine AWT.rSC ?_
      refine OpsT.cN [] (FnT.ofH (h_graph_all _ d)) ?_
      refine OpsT.rn ?_
      refine OpsT.nil ?_
      refine AWT.block ?_
      refine AWT.rU [2, 1, 4, 3, 5] [] [(3, .ptr 0 0), (5, .ptr 2 0)] (fun j h k => j = none ∧ (∃ rl lq, h = [(0, .cells [.map 1]), (1, mapOf KI VI (netL d.items)), (2, .cells [.map 3]), (3, setOf (fun n => AV.int .i64 n) (dangS d)), (4, .cells (Dc.cells d)), (5, .lp lq rl)]) ∧ k = 6) (xs := [.ptr 4 0]) (hp0 := [(0, .cells [.map 1]), (1, mapOf KI VI (netL d.items)), (2, .cells [.map 3]), (3, setOf (fun n => AV.int .i64 n) []), (4, .cells (Dc.cells d))]) ?_ ?_
      · intro Ω _ lq rb rc hr
        refine (ad_all gl d d.items (dangAll d) (fun _ => True) (fun _ _ _ _ _ => trivial) lq rc (fun s n o _ hm => ?_) [] trivial h).mono (fun q hp nx hh => ⟨⟨_, hh.1⟩, none, by rw [hh.2.1]; rfl, rfl, ⟨_, _, hh.2.1⟩, hh.2.2⟩)
        have ho : o.bulk ≤ 16777216 := allL_bulk hm h
        refine hr [_, _] _ 6 _ rfl rfl ?_
        refine AWT.rL ?_
        refine ⟨rfl, rfl, ?_⟩
        refine AWT.block ?_
        refine AWT.rSC ?_
        refine OpsT.cN [] (FnT.ofH (h_graph_refs _ o)) ?_
        refine OpsT.rn ?_
        refine OpsT.nil ?_
        refine AWT.block ?_
        refine AWT.rUI [0, 1, 2, 3, 7] [] [(3, .ptr 0 0), (5, .ptr 2 0)] (fun j h k => j = none ∧ (∃ rl lq, h = [(0, .cells [.map 1]), (1, mapOf KI VI (netL d.items)), (2, .cells [.map 3]), (3, setOf (fun n => AV.int .i64 n) (dangAll d s n o)), (4, .cells (Pob.cells o)), (5, .lp lq rl)]) ∧ k = 6) (xs := [.ptr 4 0]) (hp0 := [(0, .cells [.map 1]), (1, mapOf KI VI (netL d.items)), (2, .cells [.map 3]), (3, setOf (fun n => AV.int .i64 n) s), (4, .cells (Pob.cells o))]) (k0 := 5) rfl ?_ ?_
        · intro Ω1 _ l1 rb1 rc1 hr1
          refine (wd_refs gl d.items o (dangStp d.items) .skip (fun _ => True) (fun _ _ _ => trivial) l1 rc1 (fun s1 o1 _ => ?_) s trivial ho).mono (fun q hp nx hh => ?_)
          · refine hr1 [_] _ 6 _ rfl rfl ?_
            refine AWT.rL ?_
            refine ⟨rfl, rfl, ?_⟩
            refine AWT.block ?_
            refine AWT.rSC ?_
            refine OpsT.cs (awGuard.c1 (c_graph_leads _ d.items o1) ?_)
            refine OpsT.rn ?_
            refine OpsT.nil ?_
            refine AWT.rS ?_
            refine AWT.c2 ?_ ?_
            · intro hl
              refine AWT.rLC ?_
              refine OpsT.cs (awGuard.upS (keyOk_int .i64) ?_)
              refine OpsT.rn ?_
              refine OpsT.nil ?_
              refine ⟨none, rfl, ⟨39, [], [(0, .cells [.map 1]), (1, mapOf KI VI (netL d.items)), (2, .cells [.map 3]), (3, setOf (fun n => AV.int .i64 n) (dangStp d.items s1 o1).1), (4, .cells (Pob.cells o)), (5, .lp l1 rb1)], 6, gl, 6, []⟩, ?_, rfl, by simp only [go_sem, seval], rfl, rfl, rfl⟩
              refine St.le.vx [0, 1, 2, 3, 4, 5] (hpre := (by decide : ∀ i, i < 6 → nth [0, 1, 2, 3, 4, 5] i = some i)) ?_
              simp [dangStp, hl]
            · intro hl
              refine AWT.skip ?_
              refine ⟨none, rfl, ⟨39, [], [(0, .cells [.map 1]), (1, mapOf KI VI (netL d.items)), (2, .cells [.map 3]), (3, setOf (fun n => AV.int .i64 n) (dangStp d.items s1 o1).1), (4, .cells (Pob.cells o)), (5, .lp l1 rb1)], 6, gl, 6, []⟩, ?_, rfl, by simp only [go_sem, seval], rfl, rfl, rfl⟩
              refine St.le.vx [0, 1, 2, 3, 4, 5] (hpre := (by decide : ∀ i, i < 6 → nth [0, 1, 2, 3, 4, 5] i = some i)) ?_
              simp [dangStp, hl]
          · have hl := walkR_last (dang_last d.items) o.pre s
            refine ⟨⟨_, hh.1⟩, none, ?_, rfl, ?_, hh.2.2⟩
            · rw [hh.2.1, hl]; rfl
            · exact ⟨_, _, hh.2.1⟩
        · rintro j hp' nx' ⟨rfl, ⟨rl, l1, rfl⟩, rfl⟩
          refine ⟨by simp only [go_sem, seval], ?_⟩
          refine ⟨none, rfl, ⟨39, [], [(0, .cells [.map 1]), (1, mapOf KI VI (netL d.items)), (2, .cells [.map 3]), (3, setOf (fun n => AV.int .i64 n) (dangAll d s n o)), (4, .cells (Dc.cells d)), (5, .lp lq rb)], 6, gl, 6, []⟩, ?_, rfl, by simp only [go_sem, seval], rfl, rfl, rfl⟩
          refine St.le.vw [0, 1, 2, 3, 4, 5] (hpre := (by decide : ∀ i, i < 6 → nth [0, 1, 2, 3, 4, 5] i = some i))
      · rintro j hp' nx' ⟨rfl, ⟨rl, l1, rfl⟩, rfl⟩
        refine ⟨by simp only [go_sem, seval], ?_⟩
        refine AWT.rSC ?_
        refine OpsT.cN [3] (h_graph_rising _ (dangS d) (fun x hx => litwf (dangS_wf hv x hx)) (Nat.le_trans (dangS_len d) h)) ?_
        refine OpsT.rn ?_
        refine OpsT.nil ?_
        refine AWT.rt ?_
        rw [danglingP, if_pos hv]
  · refine OpsT.cs (awGuard.c1 (c_graph_of_bad _ d hv h) ?_)
    refine OpsT.rn ?_
    refine OpsT.nil ?_
    refine AWT.seq ?_
    refine AWT.rS ?_
    refine AWT.c2 ?_ ?_
    · intro _
      refine AWT.rS ?_
      refine AWT.rt ?_
      rw [danglingP, if_neg hv]
      first | trivial | rfl
    · intro h17
      simp at h17
end Go.Proofs

namespace Go.Proofs
open Go Aw
set_option linter.unusedSimpArgs false
set_option linter.unusedVariables false
set_option maxRecDepth 100000
set_option maxHeartbeats 1000000
attribute [local go_sem ↓ high] noTBm_net
attribute [local go_sem] mres netL_nil VI mfind
theorem c_graph_Users (gl : List (Nat × AV)) (d : Dc) (num : Int) (h : d.bulk ≤ 16777216) : FnP Try.prog gl 11 [.agg d.cells, .int .i64 num] fun r => r = .ret (.sl (intsAV (usersP d num))) := by
  refine FnP.introM Try.func11 rfl rfl (by simp [Try.ntmps11]) (by rintro q rfl; exact ⟨_, rfl⟩) ?_
  intro B_
  simp only [argEnv, Try.ntmps11, Try.results11]
  have hbk : d.bulk = ibulk d.items + d.trailer.bulk := rfl
  refine AWT.rS ?_
  refine AWT.rSC ?_
  by_cases hv : docE d = 0
  · refine OpsT.cN [] (FnT.ofH (h_graph_of _ d hv h)) ?_
    refine OpsT.rn ?_
    refine OpsT.nil ?_
    refine AWT.seq ?_
    refine AWT.rSC ?_
    refine OpsT.cs (awGuard.lkM (keyOk_int .i64) Itm.zero zero_itm rfl ?_)
    refine OpsT.rn ?_
    refine OpsT.nil ?_
    refine AWT.rS ?_
    refine AWT.c2 ?_ ?_
    · intro h31
      have ht : thereB d num = false := by simpa [thereB] using h31
      refine AWT.rS ?_
      refine AWT.rt ?_
      rw [usersP, if_pos hv, ht]
      first | trivial | rfl
    · intro h31
      have ht : thereB d num = true := by simpa [thereB, Option.isSome_iff_ne_none] using h31
      refine AWT.skip ?_
      refine AWT.rSC ?_
      refine OpsT.cs (awGuard.mkS (keyOk_int .i64) ?_)
      refine OpsT.rn ?_
      refine OpsT.nil ?_
      refine AWT.seq ?_
      refine AWT.rSC ?_
      refine OpsT.cN [] (FnT.ofH (h_graph_all _ d)) ?_
      refine OpsT.rn ?_
      refine OpsT.nil ?_
      refine AWT.block ?_
      refine AWT.rU [3, 2, 1, 6, 5, 7] [] [(5, .ptr 0 0), (3, .ptr 2 0), (9, .ptr 3 0)] (fun j h k => j = none ∧ (∃ rl lq, h = [(0, .cells [.map 1]), (1, mapOf KI VI (netL d.items)), (2, .cells [.int .i64 num]), (3, .cells [.map 4]), (4, setOf (fun n => AV.int .i64 n) (usersS d num)), (5, .cells (Dc.cells d)), (6, .lp lq rl)]) ∧ k = 7) (xs := [.ptr 5 0]) (hp0 := [(0, .cells [.map 1]), (1, mapOf KI VI (netL d.items)), (2, .cells [.int .i64 num]), (3, .cells [.map 4]), (4, setOf (fun n => AV.int .i64 n) []), (5, .cells (Dc.cells d))]) ?_ ?_
      · intro Ω _ lq rb rc hr
        refine (au_all gl d d.items num (usersAll d num) (fun _ => True) (fun _ _ _ _ _ => trivial) lq rc (fun s n o _ hm => ?_) [] trivial h).mono (fun q hp nx hh => ⟨⟨_, hh.1⟩, none, by rw [hh.2.1]; rfl, rfl, ⟨_, _, hh.2.1⟩, hh.2.2⟩)
        have ho : o.bulk ≤ 16777216 := allL_bulk hm h
        refine hr [_, _] _ 7 _ rfl rfl ?_
        refine AWT.rS ?_
        refine AWT.rL ?_
        refine ⟨rfl, rfl, ?_⟩
        refine AWT.block ?_
        refine AWT.rSC ?_
        refine OpsT.cN [] (FnT.ofH (h_graph_refs _ o)) ?_
        refine OpsT.rn ?_
        refine OpsT.nil ?_
        refine AWT.block ?_
        refine AWT.rUI [0, 1, 2, 3, 4, 7, 9] [] [(5, .ptr 0 0), (3, .ptr 2 0), (9, .ptr 3 0), (10, .ptr 5 0)] (fun j h k => j = (if (walkR (usesStp d.items num n) s o.pre).2 then some (.exit 2) else none) ∧ (∃ rl lq, h = [(0, .cells [.map 1]), (1, mapOf KI VI (netL d.items)), (2, .cells [.int .i64 num]), (3, .cells [.map 4]), (4, setOf (fun n => AV.int .i64 n) (usersAll d num s n o)), (5, .cells [.int .i64 n]), (6, .cells (Pob.cells o)), (7, .lp lq rl)]) ∧ k = 8) (xs := [.ptr 6 0]) (hp0 := [(0, .cells [.map 1]), (1, mapOf KI VI (netL d.items)), (2, .cells [.int .i64 num]), (3, .cells [.map 4]), (4, setOf (fun n => AV.int .i64 n) s), (5, .cells [.int .i64 n]), (6, .cells (Pob.cells o))]) (k0 := 6) rfl ?_ ?_
        · intro Ω1 _ l1 rb1 rc1 hr1
          refine (wu_refs gl d.items num n o (usesStp d.items num n) (.exit 2) (fun _ => True) (fun _ _ _ => trivial) l1 rc1 (fun s1 o1 _ => ?_) s trivial ho).mono (fun q hp nx hh => ?_)
          · refine hr1 [_] _ 8 _ rfl rfl ?_
            refine AWT.rL ?_
            refine ⟨rfl, rfl, ?_⟩
            refine AWT.block ?_
            refine AWT.rSC ?_
            refine OpsT.cs (awGuard.c1 (c_graph_leads _ d.items o1) ?_)
            refine OpsT.rn ?_
            refine OpsT.nil ?_
            refine AWT.rS ?_
            refine AWT.c2 ?_ ?_
            · intro hl
              have hu : usesB d.items num o1 = true := by simpa [usesB] using hl
              refine AWT.rSC ?_
              refine OpsT.cs (awGuard.upS (keyOk_int .i64) ?_)
              refine OpsT.rn ?_
              refine OpsT.nil ?_
              refine AWT.exit ?_
              refine ⟨some (.exit 2), rfl, ⟨57, [], [(0, .cells [.map 1]), (1, mapOf KI VI (netL d.items)), (2, .cells [.int .i64 num]), (3, .cells [.map 4]), (4, setOf (fun n => AV.int .i64 n) (usesStp d.items num n s1 o1).1), (5, .cells [.int .i64 n]), (6, .cells (Pob.cells o)), (7, .lp l1 rb1)], 8, gl, 8, []⟩, ?_, rfl, by simp only [go_sem, seval], ?_⟩
              · refine St.le.vx [0, 1, 2, 3, 4, 5, 6, 7] (hpre := (by decide : ∀ i, i < 8 → nth [0, 1, 2, 3, 4, 5, 6, 7] i = some i)) ?_
                simp [usesStp, hu]
              · refine ⟨by simp [usesStp, hu], ?_, rfl⟩
                simp only [usesStp, hu, if_true]
                rfl
            · intro hl
              have hu : usesB d.items num o1 = false := by
                cases hb : usesB d.items num o1
                · rfl
                · exfalso
                  simp [usesB] at hb
                  simp [hb.1, hb.2] at hl
              refine AWT.skip ?_
              refine ⟨none, rfl, ⟨57, [], [(0, .cells [.map 1]), (1, mapOf KI VI (netL d.items)), (2, .cells [.int .i64 num]), (3, .cells [.map 4]), (4, setOf (fun n => AV.int .i64 n) (usesStp d.items num n s1 o1).1), (5, .cells [.int .i64 n]), (6, .cells (Pob.cells o)), (7, .lp l1 rb1)], 8, gl, 8, []⟩, ?_, rfl, by simp only [go_sem, seval], ?_⟩
              · refine St.le.vx [0, 1, 2, 3, 4, 5, 6, 7] (hpre := (by decide : ∀ i, i < 8 → nth [0, 1, 2, 3, 4, 5, 6, 7] i = some i)) ?_
                simp [usesStp, hu]
              · refine ⟨by simp [usesStp, hu], ?_, rfl⟩
                simp only [usesStp, hu, Bool.false_eq_true, if_false]
                rfl
          · refine ⟨⟨_, hh.1⟩, _, ?_, rfl, ⟨_, _, hh.2.1⟩, hh.2.2⟩
            rw [hh.2.1]; rfl
        · rintro j hp' nx' ⟨rfl, ⟨rl, l1, rfl⟩, rfl⟩
          refine ⟨by simp only [go_sem, seval], ?_⟩
          cases hst : (walkR (usesStp d.items num n) s o.pre).2
          · refine ⟨none, rfl, ⟨57, [], [(0, .cells [.map 1]), (1, mapOf KI VI (netL d.items)), (2, .cells [.int .i64 num]), (3, .cells [.map 4]), (4, setOf (fun n => AV.int .i64 n) (usersAll d num s n o)), (5, .cells (Dc.cells d)), (6, .lp lq rb)], 7, gl, 7, []⟩, ?_, rfl, by simp only [go_sem, seval], rfl, rfl, rfl⟩
            refine St.le.vw [0, 1, 2, 3, 4, 5, 6] (hpre := (by decide : ∀ i, i < 7 → nth [0, 1, 2, 3, 4, 5, 6] i = some i))
          · refine AWT.exit ?_
            refine ⟨none, rfl, ⟨57, [], [(0, .cells [.map 1]), (1, mapOf KI VI (netL d.items)), (2, .cells [.int .i64 num]), (3, .cells [.map 4]), (4, setOf (fun n => AV.int .i64 n) (usersAll d num s n o)), (5, .cells (Dc.cells d)), (6, .lp lq rb)], 7, gl, 7, []⟩, ?_, rfl, by simp only [go_sem, seval], rfl, rfl, rfl⟩
            refine St.le.vw [0, 1, 2, 3, 4, 5, 6] (hpre := (by decide : ∀ i, i < 7 → nth [0, 1, 2, 3, 4, 5, 6] i = some i))
      · rintro j hp' nx' ⟨rfl, ⟨rl, l1, rfl⟩, rfl⟩
        refine ⟨by simp only [go_sem, seval], ?_⟩
        refine AWT.rSC ?_
        refine OpsT.cN [5] (h_graph_rising _ (usersS d num) (fun x hx => litwf0 (usersS_wf hv num x hx)) (Nat.le_trans (usersS_len d num) h)) ?_
        refine OpsT.rn ?_
        refine OpsT.nil ?_
        refine AWT.rt ?_
        rw [usersP, if_pos hv, ht]
        first | trivial | rfl
  · refine OpsT.cs (awGuard.c1 (c_graph_of_bad _ d hv h) ?_)
    refine OpsT.rn ?_
    refine OpsT.nil ?_
    refine AWT.seq ?_
    refine AWT.rSC ?_
    refine OpsT.cs (awGuard.lkN (keyOk_int .i64) Itm.zero zero_itm rfl ?_)
    refine OpsT.rn ?_
    refine OpsT.nil ?_
    refine AWT.rS ?_
    refine AWT.c2 ?_ ?_
    · intro _
      refine AWT.rS ?_
      refine AWT.rt ?_
      rw [usersP, if_neg hv]
      first | trivial | rfl
    · intro h31
      simp at h31
end Go.Proofs

namespace Aw
open Go
theorem chk_ref {o : Pob} {k : Int} (h : chk o k = 0) (h8 : o.kind = 8) : o.kids = [] := by
  have hu := (ownE_iff.1 (chk_iff.1 h).1).2.1
  have h2 : uKids o.kind = false := by rw [h8]; decide
  rcases hl : o.kids with _ | ⟨x, l⟩
  · rfl
  · exfalso
    simp [useB, h2, hl] at hu
    omega
mutual
theorem chk_rr : ∀ (o : Pob) (d : Int), chk o d = 0 → o.rr = o.pre.filter fun p => decide (p.kind = 8)
  | .mk k n g s ks l, d, h => by
    rw [Pob.pre_eq, rr_eq]
    by_cases h8 : (Pob.mk k n g s ks l).kind = 8
    · have hk := chk_ref h h8
      rw [if_pos h8, List.filter_cons, if_pos (by rw [h8]; decide), hk, pres_nil]
      rfl
    · rw [if_neg h8, List.filter_cons, if_neg (by simpa using h8)]
      exact chks_rr l (d + 1) (fun x hx => (chk_iff.1 h).2 x hx)
theorem chks_rr : ∀ (l : List Pob) (d : Int), (∀ x ∈ l, chk x d = 0) → rrs l = (pres l).filter fun p => decide (p.kind = 8)
  | [], _, _ => by simp [rrs, pres_nil]
  | o :: l, d, h => by
    rw [rrs, pres, List.filter_append, ← chk_rr o d (h o List.mem_cons_self), ← chks_rr l d (fun x hx => h x (List.mem_cons_of_mem _ hx))]
end
theorem leadR_yes {l : List Itm} (hl : incrN l) {r : Pob} (h : leadB l r = true) : leadR l r = some (leadI l r) := by
  obtain ⟨h1, h2, h3⟩ := lead_mem h
  cases e : leadR l r with
  | none =>
    unfold leadR at e
    rw [List.find?_eq_none] at e
    have := e _ h1
    simp [h2, h3] at this
  | some x =>
    obtain ⟨g1, g2, _⟩ := leadR_mem e
    rw [incr_one hl g1 h1 (by rw [g2, h2])]
theorem leadR_no {l : List Itm} (hl : incrN l) {r : Pob} (h : leadB l r = false) : leadR l r = none := by
  cases e : leadR l r with
  | none => rfl
  | some x =>
    exfalso
    obtain ⟨g1, g2, g3⟩ := leadR_mem e
    cases hm : mfind (netL l) r.num with
    | none =>
      rw [mfind_none] at hm
      refine hm ?_
      rw [← g2]
      simp only [netL, List.map_map, List.mem_map]
      exact ⟨x, g1, rfl⟩
    | some v =>
      have hv := mfind_mem hm
      simp only [netL, List.mem_map, Prod.mk.injEq] at hv
      obtain ⟨y, hy, e1, rfl⟩ := hv
      have : y = x := incr_one hl hy g1 (by rw [e1, g2])
      subst this
      simp [leadB, leadI, hm, g3] at h
theorem leadR_isSome {l : List Itm} (hl : incrN l) (r : Pob) : (leadR l r).isSome = leadB l r := by
  cases h : leadB l r
  · rw [leadR_no hl h]; rfl
  · rw [leadR_yes hl h]; rfl
theorem sortI_mem {s : List Int} {n : Int} : n ∈ sortI s ↔ n ∈ s := (List.mergeSort_perm s _).mem_iff
theorem sortI_lt {s : List Int} (h : s.Nodup) : (sortI s).Pairwise (· < ·) := by
  have h2 : (sortI s).Nodup := (List.mergeSort_perm _ _).nodup_iff.2 h
  exact (List.Pairwise.and (sortI_pairwise s) h2).imp fun ⟨a, b⟩ => by omega
theorem FromJ.perm {l : List Itm} {start : List Pob} {met : List Int} {a b : List Pob} (h : FromJ l start met a) (hp : a.Perm b) : FromJ l start met b :=
  ⟨h.nd, h.sub, fun r hr => (h.st r hr).imp id (fun g => hp.mem_iff.1 g), fun i hi hm r hr => (h.it i hi hm r hr).imp id (fun g => hp.mem_iff.1 g), fun s' hs => ⟨(h.least s' hs).1, fun r hr => (h.least s' hs).2 r (hp.mem_iff.2 hr)⟩, by rw [← hp.length_eq]; exact h.small⟩
theorem walk_fold (l : List Itm) : ∀ (L : List Pob) (s : List Int × List Pob), (walkR (reachStp l) s L).1 = (L.filter fun p => decide (p.kind = 8)).foldl (fun s r => (reachStp l s r).1) s
  | [], s => rfl
  | o :: L, s => by
    rw [walkR_cons, List.filter_cons]
    by_cases hk : o.kind = 8
    · rw [if_pos hk, if_neg (by rw [reach_last]; simp), if_pos (by simpa using hk), List.foldl_cons]
      exact walk_fold l L _
    · rw [if_neg hk, if_neg (by simpa using hk)]
      exact walk_fold l L s
theorem rrs_one (o : Pob) : rrs [o] = o.rr := by simp [rrs]
theorem fold_J {l : List Itm} {start : List Pob} (hl : incrN l) : ∀ (L : List Pob) (s : List Int × List Pob), FromJ l start s.1 (L ++ rrs s.2) →
    FromJ l start (L.foldl (fun s r => (reachStp l s r).1) s).1 (rrs (L.foldl (fun s r => (reachStp l s r).1) s).2)
  | [], s, h => h
  | r :: L, s, h => by
    rw [List.foldl_cons]
    refine fold_J hl L _ ?_
    simp only [reachStp]
    cases hb : reachB l s.1 r
    · simp only [Bool.false_eq_true, if_false]
      refine h.skip (fun i hi => ?_)
      simp only [reachB, Bool.and_eq_false_iff, Bool.not_eq_false', decide_eq_true_eq] at hb
      rcases hb with hb | hb
      · rw [leadR_no hl hb] at hi
        cases hi
      · cases hlb : leadB l r
        · rw [leadR_no hl hlb] at hi
          cases hi
        · rw [leadR_yes hl hlb] at hi
          injection hi with hi
          rw [← hi]
          exact hb
    · simp only [if_true]
      simp only [reachB, Bool.and_eq_true, Bool.not_eq_true', decide_eq_false_iff_not] at hb
      have := h.add hl (leadR_yes hl hb.1) hb.2
      rw [setAdd, if_neg hb.2, rrs_append, rrs_one, ← List.append_assoc]
      exact this
theorem pop_J {l : List Itm} {start : List Pob} (hl : incrN l) {s : List Int × List Pob} (h : FromJ l start s.1 (rrs s.2)) (hn : 0 < s.2.length) (hv : ∀ p ∈ s.2, ∃ k, chk p k = 0) :
    FromJ l start (popS l s).1 (rrs (popS l s).2) := by
  unfold popS
  rw [walk_fold]
  have hm : s.2.getD (s.2.length - 1) Pob.null ∈ s.2 := by
    rw [List.getD_eq_getElem?_getD, List.getElem?_eq_getElem (by omega)]
    exact List.getElem_mem _
  obtain ⟨k, hk⟩ := hv _ hm
  rw [← chk_rr _ k hk]
  refine fold_J hl _ _ ?_
  have e : rrs s.2 = rrs (s.2.take (s.2.length - 1)) ++ (s.2.getD (s.2.length - 1) Pob.null).rr := by
    rw [← rrs_take (l := s.2) (i := s.2.length - 1) (by omega), List.take_of_length_le (by omega)]
  rw [e] at h
  exact h.perm List.perm_append_comm
theorem fold_V {l : List Itm} (hv : ∀ i ∈ l, ∃ k, chk i.obj k = 0) : ∀ (L : List Pob) (s : List Int × List Pob), (∀ p ∈ s.2, ∃ k, chk p k = 0) → ∀ p ∈ (L.foldl (fun s r => (reachStp l s r).1) s).2, ∃ k, chk p k = 0
  | [], s, h => h
  | r :: L, s, h => by
    rw [List.foldl_cons]
    refine fold_V hv L _ ?_
    simp only [reachStp]
    split
    · rename_i hb
      simp only [reachB, Bool.and_eq_true] at hb
      intro p hp
      rcases List.mem_append.1 hp with hp | hp
      · exact h p hp
      · simp only [List.mem_singleton] at hp
        subst hp
        exact hv _ (lead_mem hb.1).1
    · exact h
theorem reachF_least {l : List Itm} {start : List Pob} (hl : incrN l) (hv : ∀ i ∈ l, ∃ k, chk i.obj k = 0) : ∀ (f : Nat) (s : List Int × List Pob), reachI l s → reachM l s ≤ f → FromJ l start s.1 (rrs s.2) → (∀ p ∈ s.2, ∃ k, chk p k = 0) → leastR l start (reachF l f s)
  | 0, s, hi, hf, h, _ => by
    have h0 : s.2 = [] := by
      simp only [reachM] at hf
      exact List.eq_nil_of_length_eq_zero (by omega)
    rw [h0] at h
    exact FromJ.end h
  | f + 1, s, hi, hf, h, hs => by
    simp only [reachF]
    by_cases hn : 0 < s.2.length
    · rw [if_pos hn]
      refine reachF_least hl hv f _ (popS_inv hi) (by have := popS_M hi hn; omega) (pop_J hl h hn hs) ?_
      unfold popS
      rw [walk_fold]
      exact fold_V hv _ _ (fun p hp => hs p (List.mem_of_mem_take hp))
    · rw [if_neg hn]
      have h0 : s.2 = [] := List.eq_nil_of_length_eq_zero (by omega)
      rw [h0] at h
      exact FromJ.end h
theorem items_chk {d : Dc} (h : docE d = 0) : ∀ i ∈ d.items, ∃ k, chk i.obj k = 0 := fun i hi => doc_chk h (i.num, i.obj) (List.mem_cons_of_mem _ (List.mem_map.2 ⟨i, hi, rfl⟩))
theorem reachS_least {d : Dc} {o : Pob} (h : docE d = 0) {k : Int} (hc : chk o k = 0) (hs : o.rr.length + ibulk d.items ≤ 33554432) : leastR d.items o.rr (reachS d.items o) := by
  unfold reachS
  refine reachF_least (items_incr (docE_items h)) (items_chk h) _ _ (reachI_top _ _) (by simp [reachM]) ?_ (fun p hp => ⟨k, by simp only [List.mem_singleton] at hp; rw [hp]; exact hc⟩)
  rw [rrs_one]
  exact FromJ.top _ _ hs
end Aw
