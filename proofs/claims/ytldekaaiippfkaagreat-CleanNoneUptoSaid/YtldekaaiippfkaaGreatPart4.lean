/- A part of the proof: no condition of its own. -/
import Derived.Test.YtldekaaiippfkaaGreatPart3
import Derived.Shelf.Strings.Search1
namespace Go.Proofs
open Go Aw
set_option linter.unusedSimpArgs false
set_option linter.unusedVariables false
set_option maxRecDepth 100000
set_option maxHeartbeats 1000000
attribute [local go_sem ↓ high] noTBm_net
attribute [local go_sem] mres netL_nil ebuildC acellsC partsC List.length_append List.length_cons List.length_nil
theorem h_graph_reach (gl : List (Nat × AV)) (l : List Itm) (o : Pob) (hl : l.length ≤ 8000000) (hb : ∀ i ∈ l, i.obj.bulk ≤ 16777216) (ho : o.bulk ≤ 16777216) :
  FnT (fun _ => True) Tryz.prog gl 104 [.map 0, .agg o.cells] [(0, mapOf KI VI (netL l))] 1 fun r h n => r = .ret (.map 1) ∧ h = [(0, mapOf KI VI (netL l)), (1, setOf (fun n => AV.int .i64 n) (reachS l o))] ∧ n = 2 := by
 refine FnT.intro Tryz.func104 rfl rfl (by simp [Tryz.ntmps104]) ?_ ?_
 ·rintro q hp' nx' ⟨rfl, rfl, rfl⟩
  exact ⟨by simp only [↓noTHm_cons, noTHm, ↓noTBm_ints, ↓noTBm_net, Bool.and_self], _, rfl, rfl⟩
 intro B_
 simp only [argEnv, Tryz.ntmps104, Tryz.results104]
 refine AWT.rS ?_
 refine AWT.rSC ?_
 refine OpsT.cs (awGuard.mkS (keyOk_int .i64) ?_)
 refine OpsT.rn ?_
 refine OpsT.nil ?_
 refine AWT.rS ?_
 refine AWT.seq ?_
 refine AWT.block ?_
 refine AWT.lk (S := { p : (List Int × List Pob) × Pob // reachJ l o p.1 ∧ reachK 16777216 p.1 }) [2, 3, 5, 6] (fun s_ => []) (fun s_ => [(0, mapOf KI VI (netL l)), (1, .cells [.map 0]), (2, .cells (Pob.cells s_.1.2)), (3, setOf (fun n => AV.int .i64 n) s_.1.1.1), (4, .cells [.map 3]), (5, .row 6 (objsAV s_.1.1.2) true), (6, .cells [.row 5 0 s_.1.1.2.length])]) 7 (fun s_ => reachM l s_.1.1) ⟨(([], [o]), o), reachJ_top l o, by intro p hp; simp only [List.mem_singleton] at hp; subst hp; exact ho⟩ ?_ ?_
 ·refine St.le.vx [0, 1, 2, 3, 4, 5, 6] (hpre := (by decide : ∀ i, i < 1 → nth [0, 1, 2, 3, 4, 5, 6] i = some i)) ?_
  simp [objsAV_map]
  rw [← objsAV_map]
  cases o
  rfl
 rintro ⟨⟨s, cur⟩, hj, hk⟩
 try dsimp only at hj
 try dsimp only at hk
 have hlen := reachI_len hj.1
 refine AWT.seq ?_
 refine AWT.rS ?_
 refine AWT.c2 ?_ ?_
 ·intro h15
  have hn : 0 < s.2.length := by omega
  have hel := reachK_at hk hn
  refine AWT.skip ?_
  refine AWT.block ?_
  refine AWT.sS [0, 1, 2, 3, 4, 5, 6, 7, 8, 9, 10] 11 [(12, 2)] [(0, mapOf KI VI (netL l)), (1, .cells [.map 0]), (2, .cells (Pob.cells (s.2.getD (s.2.length - 1) Pob.null))), (3, setOf (fun n => AV.int .i64 n) s.1), (4, .cells [.map 3]), (5, .row 6 (objsAV s.2) true), (6, .cells [.row 5 0 s.2.length])] ?_
  iterate 11 refine awFunE.p ?_
  rw [Aw.awFunE_nil]
  refine ⟨EffAt.of [3, 21], ?_⟩
  refine awPlan.rn ?_
  refine AWT.pre (St.le.rowTake 5 (s.2.length - 1) rfl) ?_
  refine AWT.trim [2, 3, 5, 6] ?_
  rw [objsAV_take]
  have hpop : popS l s = (walkR (reachStp l) (s.1, (s.2.take (s.2.length - 1))) (Pob.pre (s.2.getD (s.2.length - 1) Pob.null))).1 := rfl
  have hmm := popS_M hj.1 hn
  have hpj := reachJ_pop hj hn
  have hpk := popS_K hb hk
  have hpi := pop_inv hj.1
  generalize hps : popS l s = ps at hpop hmm hpj hpk
  generalize (s.2.getD (s.2.length - 1) Pob.null) = el at hel hpop ⊢
  have htl : s.2.length - 1 = (s.2.take (s.2.length - 1)).length := by simp
  generalize (s.2.take (s.2.length - 1)) = td at hpop hpi htl ⊢
  rw [htl]
  refine AWT.rSC ?_
  refine OpsT.cN [] (FnT.ofH (h_graph_refs _ el)) ?_
  refine OpsT.rn ?_
  refine OpsT.nil ?_
  refine AWT.block ?_
  refine AWT.rU [1, 0, 4, 3, 6, 7] [5] [(2, .ptr 0 0), (5, .ptr 2 0), (6, .ptr 4 0)] (fun j h k => j = none ∧ (∃ rl lq, h = [(0, .cells [.map 1]), (1, mapOf KI VI (netL l)), (2, .cells [.map 3]), (3, setOf (fun n => AV.int .i64 n) ps.1), (4, .cells [.row 7 0 (ps.2).length]), (5, .cells (Pob.cells el)), (7, .row 6 (objsAV ps.2) true), (6, .lp lq rl)]) ∧ k = 8) (xs := [.ptr 5 0]) (hp0 := [(0, .cells [.map 1]), (1, mapOf KI VI (netL l)), (2, .cells [.map 3]), (3, setOf (fun n => AV.int .i64 n) s.1), (4, .cells [.row 7 0 (td).length]), (5, .cells (Pob.cells el)), (7, .row 6 (objsAV td) true)]) ?_ ?_
  ·intro Ω _ lq rb rc hr
   refine (wr_refs gl l el (reachStp l) .skip (fun s => reachI l s) (fun s o h => reachI_stp s o h) lq rc (fun s1 o1 hs1 => ?_) (s.1, td) hpi hel).mono (fun q hp nx hh => ?_)
   ·have hl1 := reachI_len hs1
    refine hr [_] _ 8 _ rfl rfl ?_
    refine AWT.rL ?_
    refine ⟨rfl, rfl, ?_⟩
    refine AWT.block ?_
    refine AWT.rSC ?_
    refine OpsT.cs (awGuard.c1 (c_graph_leads _ l o1) ?_)
    refine OpsT.rn ?_
    refine OpsT.nil ?_
    refine AWT.seq ?_
    refine AWT.rSC ?_
    refine OpsT.cs (awGuard.lkG (keyOk_int .i64) ?_)
    refine OpsT.rn ?_
    refine OpsT.nil ?_
    refine AWT.c2 ?_ ?_
    ·intro hq
     have hb1 : reachB l s1.1 o1 = false := by
      cases hb1 : reachB l s1.1 o1
      ·rfl
      ·exfalso
       simp [reachB] at hb1
       simp [hb1.1, hb1.2] at hq
     refine AWT.exit ?_
     refine ⟨none, rfl, ⟨55, [], [(0, .cells [.map 1]), (1, mapOf KI VI (netL l)), (2, .cells [.map 3]), (3, setOf (fun n => AV.int .i64 n) (reachStp l s1 o1).1.1), (4, .cells [.row 7 0 ((reachStp l s1 o1).1.2).length]), (5, .cells (Pob.cells el)), (7, .row 6 (objsAV (reachStp l s1 o1).1.2) true), (6, .lp lq rb)], 8, gl, 7, []⟩, ?_, rfl, by simp only [go_sem, seval], rfl, rfl, rfl⟩
     refine St.le.vx [0, 1, 2, 3, 4, 5, 6, 7] (hpre := (by decide : ∀ i, i < 7 → nth [0, 1, 2, 3, 4, 5, 6, 7] i = some i)) ?_
     simp [reachStp, hb1]
    ·intro hq
     have hb1 : reachB l s1.1 o1 = true := by
      cases hb1 : reachB l s1.1 o1
      ·exfalso
       simp only [reachB, Bool.and_eq_false_iff, Bool.not_eq_false', decide_eq_true_eq] at hb1
       rcases hb1 with hb1 | hb1
       ·simp [hb1] at hq
       ·simp [hb1] at hq
      ·rfl
     refine AWT.skip ?_
     refine AWT.rSC ?_
     refine OpsT.cs (awGuard.upS (keyOk_int .i64) ?_)
     refine OpsT.rn ?_
     refine OpsT.nil ?_
     refine AWT.trim [6, 8] ?_
     refine AWT.tGL (σf := ?sf10) (.take 1 0 (.fork 0 (.fork 2 (.fork 3 (.fork 4 (.fork 5 (.fork 6 (.fork 7 (.fork 8 .done .stop) (.fork 8 (.fork 7 .done .stop) .stop)) (.fork 8 (.fork 6 (.fork 7 .done .stop) .stop) .stop)) .stop) .stop) (.fork 4 (.fork 3 (.fork 5 (.fork 6 (.fork 7 (.fork 8 .done .stop) (.fork 8 (.fork 7 .done .stop) .stop)) (.fork 8 (.fork 6 (.fork 7 .done .stop) .stop) .stop)) .stop) .stop) .stop)) (.fork 3 (.fork 2 (.fork 4 (.fork 5 (.fork 6 (.fork 7 (.fork 8 .done .stop) (.fork 8 (.fork 7 .done .stop) .stop)) (.fork 8 (.fork 6 (.fork 7 .done .stop) .stop) .stop)) .stop) .stop) (.fork 4 (.fork 2 (.fork 5 (.fork 6 (.fork 7 (.fork 8 .done .stop) (.fork 8 (.fork 7 .done .stop) .stop)) (.fork 8 (.fork 6 (.fork 7 .done .stop) .stop) .stop)) .stop) .stop) .stop)) (.fork 4 (.fork 2 (.fork 3 (.fork 5 (.fork 6 (.fork 7 (.fork 8 .done .stop) (.fork 8 (.fork 7 .done .stop) .stop)) (.fork 8 (.fork 6 (.fork 7 .done .stop) .stop) .stop)) .stop) .stop) (.fork 3 (.fork 2 (.fork 5 (.fork 6 (.fork 7 (.fork 8 .done .stop) (.fork 8 (.fork 7 .done .stop) .stop)) (.fork 8 (.fork 6 (.fork 7 .done .stop) .stop) .stop)) .stop) .stop) .stop)) .stop))) (.fork 2 (.fork 0 (.fork 3 (.fork 4 (.fork 5 (.fork 6 (.fork 7 (.fork 8 .done .stop) (.fork 8 (.fork 7 .done .stop) .stop)) (.fork 8 (.fork 6 (.fork 7 .done .stop) .stop) .stop)) .stop) .stop) (.fork 4 (.fork 3 (.fork 5 (.fork 6 (.fork 7 (.fork 8 .done .stop) (.fork 8 (.fork 7 .done .stop) .stop)) (.fork 8 (.fork 6 (.fork 7 .done .stop) .stop) .stop)) .stop) .stop) .stop)) (.fork 4 (.fork 0 (.fork 3 (.fork 5 (.fork 6 (.fork 7 (.fork 8 .done .stop) (.fork 8 (.fork 7 .done .stop) .stop)) (.fork 8 (.fork 6 (.fork 7 .done .stop) .stop) .stop)) .stop) .stop) .stop) .stop)) (.fork 4 (.fork 0 (.fork 2 (.fork 3 (.fork 5 (.fork 6 (.fork 7 (.fork 8 .done .stop) (.fork 8 (.fork 7 .done .stop) .stop)) (.fork 8 (.fork 6 (.fork 7 .done .stop) .stop) .stop)) .stop) .stop) (.fork 3 (.fork 2 (.fork 5 (.fork 6 (.fork 7 (.fork 8 .done .stop) (.fork 8 (.fork 7 .done .stop) .stop)) (.fork 8 (.fork 6 (.fork 7 .done .stop) .stop) .stop)) .stop) .stop) .stop)) (.fork 2 (.fork 0 (.fork 3 (.fork 5 (.fork 6 (.fork 7 (.fork 8 .done .stop) (.fork 8 (.fork 7 .done .stop) .stop)) (.fork 8 (.fork 6 (.fork 7 .done .stop) .stop) .stop)) .stop) .stop) .stop) .stop)) .stop)))) ?tree10 ?rest10
     case tree10 =>
      refine awTree.tk ?_
      refine awTree.fA ?_ ?_
      ·refine awTree.fA ?_ ?_
       ·refine awTree.fA ?_ ?_
        ·refine awTree.fK ?_ ?_
         ·refine awTree.fA ?_ ?_
          ·refine awTree.fA ?_ ?_
           ·refine awTree.fA ?_ ?_
            ·refine awTree.fA ?_ ?_
             ·exact awTree.dn
             ·exact trivial
            ·refine awTree.fA ?_ ?_
             ·refine awTree.fA ?_ ?_
              ·exact awTree.dn
              ·exact trivial
             ·exact trivial
           ·refine awTree.fA ?_ ?_
            ·refine awTree.fA ?_ ?_
             ·refine awTree.fA ?_ ?_
              ·exact awTree.dn
              ·exact trivial
             ·exact trivial
            ·exact trivial
          ·exact trivial
         ·exact trivial
        ·refine awTree.fK ?_ ?_
         ·refine awTree.fA ?_ ?_
          ·refine awTree.fA ?_ ?_
           ·refine awTree.fA ?_ ?_
            ·refine awTree.fA ?_ ?_
             ·refine awTree.fA ?_ ?_
              ·exact awTree.dn
              ·exact trivial
             ·refine awTree.fA ?_ ?_
              ·refine awTree.fA ?_ ?_
               ·exact awTree.dn
               ·exact trivial
              ·exact trivial
            ·refine awTree.fA ?_ ?_
             ·refine awTree.fA ?_ ?_
              ·refine awTree.fA ?_ ?_
               ·exact awTree.dn
               ·exact trivial
              ·exact trivial
             ·exact trivial
           ·exact trivial
          ·exact trivial
         ·exact trivial
       ·refine awTree.fA ?_ ?_
        ·refine awTree.fA ?_ ?_
         ·refine awTree.fK ?_ ?_
          ·refine awTree.fA ?_ ?_
           ·refine awTree.fA ?_ ?_
            ·refine awTree.fA ?_ ?_
             ·refine awTree.fA ?_ ?_
              ·exact awTree.dn
              ·exact trivial
             ·refine awTree.fA ?_ ?_
              ·refine awTree.fA ?_ ?_
               ·exact awTree.dn
               ·exact trivial
              ·exact trivial
            ·refine awTree.fA ?_ ?_
             ·refine awTree.fA ?_ ?_
              ·refine awTree.fA ?_ ?_
               ·exact awTree.dn
               ·exact trivial
              ·exact trivial
             ·exact trivial
           ·exact trivial
          ·exact trivial
         ·refine awTree.fK ?_ ?_
          ·refine awTree.fA ?_ ?_
           ·refine awTree.fA ?_ ?_
            ·refine awTree.fA ?_ ?_
             ·refine awTree.fA ?_ ?_
              ·refine awTree.fA ?_ ?_
               ·exact awTree.dn
               ·exact trivial
              ·refine awTree.fA ?_ ?_
               ·refine awTree.fA ?_ ?_
                ·exact awTree.dn
                ·exact trivial
               ·exact trivial
             ·refine awTree.fA ?_ ?_
              ·refine awTree.fA ?_ ?_
               ·refine awTree.fA ?_ ?_
                ·exact awTree.dn
                ·exact trivial
               ·exact trivial
              ·exact trivial
            ·exact trivial
           ·exact trivial
          ·exact trivial
        ·refine awTree.fK ?_ ?_
         ·refine awTree.fA ?_ ?_
          ·refine awTree.fA ?_ ?_
           ·refine awTree.fA ?_ ?_
            ·refine awTree.fA ?_ ?_
             ·refine awTree.fA ?_ ?_
              ·refine awTree.fA ?_ ?_
               ·exact awTree.dn
               ·exact trivial
              ·refine awTree.fA ?_ ?_
               ·refine awTree.fA ?_ ?_
                ·exact awTree.dn
                ·exact trivial
               ·exact trivial
             ·refine awTree.fA ?_ ?_
              ·refine awTree.fA ?_ ?_
               ·refine awTree.fA ?_ ?_
                ·exact awTree.dn
                ·exact trivial
               ·exact trivial
              ·exact trivial
            ·exact trivial
           ·exact trivial
          ·refine awTree.fA ?_ ?_
           ·refine awTree.fA ?_ ?_
            ·refine awTree.fA ?_ ?_
             ·refine awTree.fA ?_ ?_
              ·refine awTree.fA ?_ ?_
               ·refine awTree.fA ?_ ?_
                ·exact awTree.dn
                ·exact trivial
               ·refine awTree.fA ?_ ?_
                ·refine awTree.fA ?_ ?_
                 ·exact awTree.dn
                 ·exact trivial
                ·exact trivial
              ·refine awTree.fA ?_ ?_
               ·refine awTree.fA ?_ ?_
                ·refine awTree.fA ?_ ?_
                 ·exact awTree.dn
                 ·exact trivial
                ·exact trivial
               ·exact trivial
             ·exact trivial
            ·exact trivial
           ·exact trivial
         ·exact trivial
      ·refine awTree.fA ?_ ?_
       ·refine awTree.fA ?_ ?_
        ·refine awTree.fA ?_ ?_
         ·refine awTree.fK ?_ ?_
          ·refine awTree.fA ?_ ?_
           ·refine awTree.fA ?_ ?_
            ·refine awTree.fA ?_ ?_
             ·refine awTree.fA ?_ ?_
              ·exact awTree.dn
              ·exact trivial
             ·refine awTree.fA ?_ ?_
              ·refine awTree.fA ?_ ?_
               ·exact awTree.dn
               ·exact trivial
              ·exact trivial
            ·refine awTree.fA ?_ ?_
             ·refine awTree.fA ?_ ?_
              ·refine awTree.fA ?_ ?_
               ·exact awTree.dn
               ·exact trivial
              ·exact trivial
             ·exact trivial
           ·exact trivial
          ·exact trivial
         ·refine awTree.fK ?_ ?_
          ·refine awTree.fA ?_ ?_
           ·refine awTree.fA ?_ ?_
            ·refine awTree.fA ?_ ?_
             ·refine awTree.fA ?_ ?_
              ·refine awTree.fA ?_ ?_
               ·exact awTree.dn
               ·exact trivial
              ·refine awTree.fA ?_ ?_
               ·refine awTree.fA ?_ ?_
                ·exact awTree.dn
                ·exact trivial
               ·exact trivial
             ·refine awTree.fA ?_ ?_
              ·refine awTree.fA ?_ ?_
               ·refine awTree.fA ?_ ?_
                ·exact awTree.dn
                ·exact trivial
               ·exact trivial
              ·exact trivial
            ·exact trivial
           ·exact trivial
          ·exact trivial
        ·refine awTree.fK ?_ ?_
         ·refine awTree.fA ?_ ?_
          ·refine awTree.fA ?_ ?_
           ·refine awTree.fA ?_ ?_
            ·refine awTree.fA ?_ ?_
             ·refine awTree.fA ?_ ?_
              ·refine awTree.fA ?_ ?_
               ·exact awTree.dn
               ·exact trivial
              ·refine awTree.fA ?_ ?_
               ·refine awTree.fA ?_ ?_
                ·exact awTree.dn
                ·exact trivial
               ·exact trivial
             ·refine awTree.fA ?_ ?_
              ·refine awTree.fA ?_ ?_
               ·refine awTree.fA ?_ ?_
                ·exact awTree.dn
                ·exact trivial
               ·exact trivial
              ·exact trivial
            ·exact trivial
           ·exact trivial
          ·exact trivial
         ·exact trivial
       ·refine awTree.fK ?_ ?_
        ·refine awTree.fA ?_ ?_
         ·refine awTree.fA ?_ ?_
          ·refine awTree.fA ?_ ?_
           ·refine awTree.fA ?_ ?_
            ·refine awTree.fA ?_ ?_
             ·refine awTree.fA ?_ ?_
              ·refine awTree.fA ?_ ?_
               ·exact awTree.dn
               ·exact trivial
              ·refine awTree.fA ?_ ?_
               ·refine awTree.fA ?_ ?_
                ·exact awTree.dn
                ·exact trivial
               ·exact trivial
             ·refine awTree.fA ?_ ?_
              ·refine awTree.fA ?_ ?_
               ·refine awTree.fA ?_ ?_
                ·exact awTree.dn
                ·exact trivial
               ·exact trivial
              ·exact trivial
            ·exact trivial
           ·exact trivial
          ·refine awTree.fA ?_ ?_
           ·refine awTree.fA ?_ ?_
            ·refine awTree.fA ?_ ?_
             ·refine awTree.fA ?_ ?_
              ·refine awTree.fA ?_ ?_
               ·refine awTree.fA ?_ ?_
                ·exact awTree.dn
                ·exact trivial
               ·refine awTree.fA ?_ ?_
                ·refine awTree.fA ?_ ?_
                 ·exact awTree.dn
                 ·exact trivial
                ·exact trivial
              ·refine awTree.fA ?_ ?_
               ·refine awTree.fA ?_ ?_
                ·refine awTree.fA ?_ ?_
                 ·exact awTree.dn
                 ·exact trivial
                ·exact trivial
               ·exact trivial
             ·exact trivial
            ·exact trivial
           ·exact trivial
         ·refine awTree.fA ?_ ?_
          ·refine awTree.fA ?_ ?_
           ·refine awTree.fA ?_ ?_
            ·refine awTree.fA ?_ ?_
             ·refine awTree.fA ?_ ?_
              ·refine awTree.fA ?_ ?_
               ·refine awTree.fA ?_ ?_
                ·exact awTree.dn
                ·exact trivial
               ·refine awTree.fA ?_ ?_
                ·refine awTree.fA ?_ ?_
                 ·exact awTree.dn
                 ·exact trivial
                ·exact trivial
              ·refine awTree.fA ?_ ?_
               ·refine awTree.fA ?_ ?_
                ·refine awTree.fA ?_ ?_
                 ·exact awTree.dn
                 ·exact trivial
                ·exact trivial
               ·exact trivial
             ·exact trivial
            ·exact trivial
           ·exact trivial
          ·exact trivial
        ·exact trivial
     case rest10 =>
      refine ⟨none, rfl, ⟨55, [], [(0, .cells [.map 1]), (1, mapOf KI VI (netL l)), (2, .cells [.map 3]), (3, setOf (fun n => AV.int .i64 n) (reachStp l s1 o1).1.1), (4, .cells [.row 7 0 ((reachStp l s1 o1).1.2).length]), (5, .cells (Pob.cells el)), (7, .row 6 (objsAV (reachStp l s1 o1).1.2) true), (6, .lp lq rb)], 8, gl, 7, []⟩, ?_, rfl, by simp only [go_sem, seval], rfl, rfl, rfl⟩
      refine St.le.vx [0, 1, 2, 3, 4, 5, 6, 10] (hpre := (by decide : ∀ i, i < 7 → nth [0, 1, 2, 3, 4, 5, 6, 10] i = some i)) ?_
      simp [reachStp, hb1, objsAV_map]
      rw [← objsAV_map]
      generalize (leadI l o1).obj = oo
      cases oo
      rfl
   ·have hlast := walkR_last (reach_last l) (Pob.pre el) (s.1, td)
    refine ⟨⟨_, hh.1⟩, none, ?_, rfl, ?_, hh.2.2⟩
    ·rw [hh.2.1, hlast] <;> rfl
    ·rw [hpop]; exact ⟨_, _, hh.2.1⟩
  ·rintro j hp' nx' ⟨rfl, ⟨rl, lq, rfl⟩, rfl⟩
   refine ⟨by simp only [go_sem, seval], ?_⟩
   refine ⟨⟨(ps, el), hpj, hpk⟩, ?_, hmm⟩
   exact St.le.vw [0, 1, 2, 3, 4, 9, 6] (hpre := (by decide : ∀ i, i < 1 → nth [0, 1, 2, 3, 4, 9, 6] i = some i))
 ·intro h15
  refine AWT.exit ?_
  refine AWT.rS ?_
  refine AWT.pre (σ' := ⟨55, [(4, .map 1)], [(0, mapOf KI VI (netL l)), (1, setOf (fun n => AV.int .i64 n) (reachS l o))], 2, gl, 1, []⟩) ?_ ?_
  ·rw [← reachJ_end hj (by omega)]
   exact St.le.vw [0, 3] (hpre := (by decide : ∀ i, i < 1 → nth [0, 3] i = some i))
  ·refine AWT.rt ?_
   trivial
end Go.Proofs

namespace Go.Proofs
open Go Aw
set_option linter.unusedSimpArgs false
set_option linter.unusedVariables false
set_option maxRecDepth 100000
set_option maxHeartbeats 1000000
attribute [local go_sem ↓ high] noTBm_net
attribute [local go_sem] mres netL_nil
theorem repY_ints {m : Mem} {g : Nat} : ∀ (l : List Int) (o : Nat), (∀ i, i < l.length → m.w.cell? ⟨g, o + i, none⟩ = some (.int .i64 (l.getD i 0))) → RepY m (intsAV l) g o 1
 | [], _, _ => by simp [intsAV, RepY]
 | x :: l, o, h => by
  simp only [intsAV, List.map_cons, RepY, RepX]
  refine ⟨rfl, ⟨⟨_, h 0 (by simp), by simp only [Rep]; rfl⟩, trivial⟩, ?_⟩
  refine repY_ints l (o + 1) fun i hi => ?_
  have := h (i + 1) (by simp; omega)
  rw [show o + (i + 1) = o + 1 + i from by omega] at this
  simpa using this
theorem h_slices_SortedR (gl : List (Nat × AV)) (s : List Int) (hwf : ∀ x ∈ s, (Lit.int .i64 x).wf = true) (hl : s.length ≤ 16777216) :
  FnT (fun _ => True) Tryz.prog gl 115 [.clos 123 [.ptr 1 0]] [(0, setOf (fun n => AV.int .i64 n) s), (1, .cells [.map 0])] 2 fun r h n => r = .ret (.row 2 0 (sortI s).length) ∧ h = [(0, setOf (fun n => AV.int .i64 n) s), (1, .cells [.map 0]), (2, .row 1 (intsAV (sortI s)) true)] ∧ n = 3 := by
 refine ⟨Aw.enters_of Tryz.func115 rfl rfl, fun m vs hm _ hv => ?_⟩
 obtain ⟨ri0, r0, b0⟩ := hm.h.blk 0 _ rfl
 obtain ⟨ri1, r1, b1⟩ := hm.h.blk 1 _ rfl
 obtain ⟨n1, _, f1, c, T, hc, hcl⟩ := b1
 simp only [RepL, Rep] at hcl hv
 obtain ⟨v0, rest0, hc0, ⟨_, ri0', r0', rfl⟩, rfl⟩ := hcl
 rw [r0] at r0'
 injection r0' with r0'
 subst r0'
 obtain ⟨v, rest, rfl, ⟨cv, rfl, v1, rest1, hcv, ⟨_, ri1', r1', rfl⟩, rfl⟩, rfl⟩ := hv
 rw [r1] at r1'
 injection r1' with r1'
 subst r1'
 have hcv' : cv = #[.pointer (some ⟨ri1.b, 0, none⟩)] := by
  apply Array.ext'
  exact hcv
 subst hcv'
 have hc' : c = #[.map (some ri0.b)] := by
  apply Array.ext'
  exact hc0
 subst hc'
 obtain ⟨D0, hown, hperm, hsize⟩ := set_owns b0 hwf hl
 have hb1 : ri1.b < m.w.heap.size := lt_of_getElem? hc
 have hcell : m.w.cell? ⟨ri1.b, 0, none⟩ = some (.map (some ri0.b)) := by simp [World.cell?, hc]
 have hcall := Tryz.sortedKeys ri1.b ri0.b s.length D0 (plainElem Tryz.prog 4) m.w hb1 hcell hown (by rw [hsize]; simp only [maxLen]; omega) (by rw [hsize]; omega)
 refine hcall.mono ?_
 rintro e w' ⟨v, ss, rfl, hp, hrow, _, hbel⟩
 have hss : ss.mergeSort (fun x y => decide (x ≤ y)) = sortI s := mergeSort_of_perm_i (hp.trans hperm)
 have hsl : ss.length = s.length := (hp.trans hperm).length_eq
 rw [hss] at hrow
 have hlen : (sortI s).length = ss.length := by rw [← hss]; exact (List.mergeSort_perm _ _).length_eq
 obtain ⟨_, ⟨rfl, h0⟩ | ⟨g, cap, cur, rfl, hgb, hgc, hcap, _, hcs, hct⟩⟩ := hrow
 ·have hnil : sortI s = [] := List.eq_nil_of_length_eq_zero (by omega)
  have hle := withRow_le (w' := w') (ri := ⟨0, 0, 0, 1, true⟩) hm.h hbel.block hbel.size hbel.os hbel.tape hbel.output
  have hsim := withRow_simH (w' := w') (ri := ⟨0, 0, 0, 1, true⟩) (x := .row 1 (intsAV (sortI s)) true) hm.h hbel.block hbel.size (fun h => by cases h) (by rw [hnil]; exact .inl ⟨rfl, rfl⟩)
  refine ⟨_, .ret (.row 2 0 (sortI s).length), _, _, rfl, hle, hsim, ⟨_, rfl, ?_⟩, rfl, rfl, rfl⟩
  simp only [Rep]
  exact ⟨trivial, _, rfl, .inl ⟨rfl, rfl, by rw [hnil]; rfl, rfl⟩⟩
 ·have hil : (intsAV (sortI s)).length = ss.length := by rw [← hlen]; simp [intsAV]
  have hle := withRow_le (w' := w') (ri := ⟨g, 0, cap, 1, false⟩) hm.h hbel.block hbel.size hbel.os hbel.tape hbel.output
  have hsim := withRow_simH (w' := w') (ri := ⟨g, 0, cap, 1, false⟩) (x := .row 1 (intsAV (sortI s)) true) hm.h hbel.block hbel.size (fun _ => hgb) (by
   refine .inr ⟨rfl, fun hp => ?_, ⟨Nat.le_refl _, rfl⟩, by rw [hil]; exact hcap, ⟨cur, _, 0, 0, hgc, fun i _ => by omega, by rw [hcs]; simp⟩, ?_⟩
   ·have := hm.h.Pold g hp
    omega
   ·rw [if_pos rfl]
    refine ⟨repY_ints _ 0 fun i hi => ?_, fun i _ hf => ?_⟩
    ·have hcur : cur[i]? = some (.int .i64 ((sortI s).getD i 0)) := by
      have e : (cur.toList.take (ss.length * 1))[i]? = ((sortI s).map encZ)[i]? := by rw [hct]
      rw [List.getElem?_take_of_lt (by omega), Array.getElem?_toList, List.getElem?_map, List.getElem?_eq_getElem hi] at e
      rw [e]
      simp [List.getD, hi]
     show w'.cell? ⟨g, 0 + i, none⟩ = _
     simp [World.cell?, hgc, hcur]
    ·have := hm.h.Fold g i hf
     omega)
  refine ⟨_, .ret (.row 2 0 (sortI s).length), _, _, rfl, hle, hsim, ⟨_, rfl, ?_⟩, rfl, rfl, rfl⟩
  simp only [Rep]
  refine ⟨trivial, _, rfl, ?_⟩
  rcases Nat.eq_zero_or_pos cap with h0 | h0
  ·subst h0
   obtain rfl : ss = [] := List.eq_nil_of_length_eq_zero (by omega)
   exact .inr (.inr ⟨rfl, rfl, by rw [hlen]; rfl, _, rfl⟩)
  ·exact .inr (.inl ⟨rfl, by rw [hlen]; simpa using hcap, h0, by rw [hlen]; simp⟩)
theorem h_graph_risingR (gl : List (Nat × AV)) (s : List Int) (hwf : ∀ x ∈ s, (Lit.int .i64 x).wf = true) (hl : s.length ≤ 16777216) :
  FnT (fun _ => True) Tryz.prog gl 103 [.map 0] [(0, setOf (fun n => AV.int .i64 n) s)] 1 fun r h n => r = .ret (.row 1 0 (sortI s).length) ∧ h = [(0, setOf (fun n => AV.int .i64 n) s), (1, .row 1 (intsAV (sortI s)) true)] ∧ n = 2 := by
 refine FnT.intro Tryz.func103 rfl rfl (by simp [Tryz.ntmps103]) ?_ ?_
 ·rintro q hp' nx' ⟨rfl, rfl, rfl⟩
  exact ⟨by simp only [↓noTHm_cons, noTHm, ↓noTBm_ints, noTBm, Bool.and_self], _, rfl, rfl⟩
 intro B_
 simp only [argEnv, Tryz.ntmps103, Tryz.results103]
 refine AWT.rS ?_
 refine AWT.rSC ?_
 refine OpsT.cN [0] (FnT.ofH (h_maps_Keys _ _)) ?_
 refine OpsT.rn ?_
 refine OpsT.cN [0, 1] (h_slices_SortedR _ s hwf hl) ?_
 refine OpsT.rn ?_
 refine OpsT.nil ?_
 refine AWT.pre (σ' := ⟨6, [(2, .row 1 0 (sortI s).length)], [(0, setOf (fun n => AV.int .i64 n) s), (1, .row 1 (intsAV (sortI s)) true)], 2, gl, 1, []⟩) (St.le.vw [0, 2] (hpre := (by decide : ∀ i, i < 1 → nth [0, 2] i = some i))) ?_
 refine AWT.rt ?_
 trivial
theorem h_graph_From (gl : List (Nat × AV)) (d : Dc) (o : Pob) (hv : docE d = 0) (hc : chk o 1 = 0) (h : d.bulk ≤ 16777216) (ho : o.bulk ≤ 16777216) : FnH Tryz.prog gl 69 [.agg d.cells, .agg o.cells] [] 0 fun r h n => r = .ret (.row 0 0 (fromP d o).length) ∧ h = [(0, .row 1 (intsAV (fromP d o)) true)] ∧ n = 1 := by
 refine FnH.ofT (FnT.intro Tryz.func69 rfl rfl (by simp [Tryz.ntmps69]) (by rintro q hp' nx' ⟨rfl, rfl, rfl⟩; exact ⟨rfl, _, rfl, rfl⟩) ?_)
 intro B_
 simp only [argEnv, Tryz.ntmps69, Tryz.results69]
 refine AWT.rS ?_
 refine AWT.rSC ?_
 refine OpsT.cN [] (FnT.ofH (h_graph_of _ d hv h)) ?_
 refine OpsT.rn ?_
 refine OpsT.nil ?_
 refine AWT.seq ?_
 refine AWT.rSC ?_
 refine OpsT.cs (awGuard.cG (fun hg => c_value_Check _ o ho) ?_)
 refine OpsT.rn ?_
 refine OpsT.nil ?_
 refine AWT.c2 ?_ ?_
 ·intro h17
  exfalso
  simp [hc] at h17
 ·intro h17
  refine AWT.skip ?_
  refine AWT.rSC ?_
  refine OpsT.cN [2] (h_graph_reach _ d.items o (Nat.le_trans (items_len hv) (by omega)) (items_bulk h) ho) ?_
  refine OpsT.rn ?_
  refine OpsT.cN [3] (h_graph_risingR _ (reachS d.items o) (fun x hx => litwf (reachS_wf hv _ x hx)) (Nat.le_trans (reachS_len d.items o) (Nat.le_trans (items_len hv) (by omega)))) ?_
  refine OpsT.rn ?_
  refine OpsT.nil ?_
  refine AWT.pre (σ' := ⟨23, [(4, .row 0 0 (fromP d o).length)], [(0, .row 1 (intsAV (fromP d o)) true)], 1, gl, 0, []⟩) (by
   rw [fromP, if_pos ⟨hv, hc⟩]
   exact St.le.vw [4]) ?_
  refine AWT.rt ?_
  trivial
theorem h_graph_Reach (gl : List (Nat × AV)) (d : Dc) (hv : docE d = 0) (h : d.bulk ≤ 16777216) : FnH Tryz.prog (gl) 43 [.agg d.cells] ([]) 0 (fun r h n => r = .ret (.row 0 0 (fromP d d.trailer).length) ∧ h = [(0, .row 1 (intsAV (fromP d d.trailer)) true)] ∧ n = 1) := by
 refine FnH.intro Tryz.func43 rfl rfl (by simp [Tryz.ntmps43]) ?_
 simp only [argEnv, Tryz.ntmps43, Tryz.results43]
 refine AW.rS ?_
 refine AW.rSC ?_
 refine awOps.cons (awGuard.cH [] (h_graph_From _ d d.trailer hv (chk_top hv) h (Nat.le_trans (Nat.le_add_left _ _) h)) ?_)
 refine awOps.rn ?_
 refine AW.vw [1] [(2, .row 0 0 (fromP d d.trailer).length)] [(0, .row 1 (intsAV (fromP d d.trailer)) true)] ?_
 refine AW.rt ?_
 trivial
end Go.Proofs

namespace Aw
open Go
def cleanKs : List (List UInt8) := [cInfoK, cIdK]
def cutN (u : List (List UInt8)) (t : Pob) : Nat → Pob
 | 0 => t
 | 1 => cut1 u t cInfoK
 | _ + 2 => cleanT u t
variable {u : List (List UInt8)} {t : Pob}
theorem cutN_yes {k : Nat} (h : k < cleanKs.length) (hm : cleanKs.getD k [] ∈ u) : cutN u t (k + 1) = dropO (cutN u t k) (cleanKs.getD k []) := by
 have h2 : k < 2 := h
 match k, h2 with
 | 0, _ => exact if_pos hm
 | 1, _ => exact if_pos hm
theorem cutN_no {k : Nat} (h : k < cleanKs.length) (hm : ¬ cleanKs.getD k [] ∈ u) : cutN u t (k + 1) = cutN u t k := by
 have h2 : k < 2 := h
 match k, h2 with
 | 0, _ => exact if_neg hm
 | 1, _ => exact if_neg hm
theorem cutN_bulk (k : Nat) : (cutN u t k).bulk ≤ t.bulk := by
 match k with
 | 0 => exact Nat.le_refl _
 | 1 =>
  show (cut1 u t cInfoK).bulk ≤ t.bulk
  have := dropO_bulk t cInfoK
  rw [cut1]
  split <;> omega
 | k + 2 => exact cleanT_bulk t
theorem cutN_end : cutN u t cleanKs.length = cleanT u t := rfl
theorem stripI_take {l : List Itm} {i : Nat} (h : i < l.length) : (l.take (i + 1)).map (stripI u) = (l.take i).map (stripI u) ++ [stripI u (l.getD i Itm.zero)] := by
 rw [List.take_succ_eq_append_getElem h, List.map_append, getD_zero h]
 rfl
theorem cutN_zero : cutN u t 0 = t := rfl
theorem cleanKs_len : cleanKs.length = 2 := rfl
theorem cleanKs_av : strsAV cleanKs = [[.str [73, 110, 102, 111]], [.str [73, 68]]] := rfl
theorem cleanX_bulk (d : Dc) : (cleanX u d).bulk ≤ d.bulk := by
 have h2 := cleanT_bulk (u := u) d.trailer
 have h3 := stripI_bulk (u := u) d.items
 show ibulk (d.items.map (stripI u)) + (cleanT u d.trailer).bulk ≤ ibulk d.items + d.trailer.bulk
 omega
theorem cleanD_bulk (d : Dc) : (cleanD u d).bulk ≤ d.bulk + 1 := by
 unfold cleanD
 split
 ·show 0 + Pob.null.bulk ≤ d.bulk + 1
  have : Pob.null.bulk = 1 := rfl
  omega
 ·have h1 := cleanX_bulk (u := u) d
  have h2 := ibulk_filter (cleanX u d).items fun i => decide (i.num ∈ cleanR u d)
  have h3 : (cleanX u d).bulk = ibulk (cleanX u d).items + (cleanX u d).trailer.bulk := rfl
  have h4 : (cleanC u d).bulk = ibulk ((cleanX u d).items.filter fun i => decide (i.num ∈ cleanR u d)) + (cleanX u d).trailer.bulk := rfl
  omega
theorem left_take {l : List Itm} {p : Itm → Bool} {i : Nat} (h : i < l.length) : ((l.take (i + 1)).filter p).map (·.num) = ((l.take i).filter p).map (·.num) ++ if p (l.getD i Itm.zero) = true then [(l.getD i Itm.zero).num] else [] := by
 rw [List.take_succ_eq_append_getElem h, List.filter_append, List.map_append, getD_zero h]
 congr 1
 rw [List.filter_cons]
 split <;> simp
theorem left_len (l : List Itm) (p : Itm → Bool) (i : Nat) : (((l.take i).filter p).map (·.num)).length ≤ l.length := by
 rw [List.length_map]
 exact Nat.le_trans (List.length_filter_le _ _) (List.length_take_le' _ _)
attribute [irreducible] cutN cleanKs
end Aw

namespace Go.Proofs
open Go Aw
set_option linter.unusedSimpArgs false
set_option linter.unusedVariables false
set_option maxRecDepth 100000
set_option maxHeartbeats 2000000
attribute [local go_sem] take_itemsAV app_itemsAV itemsAV_length
attribute [local go_sem ↓ high] noTBm_nums noTBm_keys renHp_cons noTHm_cons
theorem c_clean_Doc (gl : List (Nat × AV)) (d : Dc) (ks : List (List UInt8)) (h : d.bulk ≤ 16777000) (hl : ks.length ≤ 16777216) : FnP Tryz.prog (gl) 14 [.agg d.cells, .sl (strsAV ks)] fun r => r = .ret (.tup [.agg (cleanD ks d).cells, .int .i64 (docE d)]) := by
 refine FnP.intro Tryz.func14 rfl rfl (by simp [Tryz.ntmps14]) ?_
 simp only [argEnv, Tryz.ntmps14, Tryz.results14]
 have hb8 : d.bulk = ibulk d.items + d.trailer.bulk := rfl
 have hb9 := ibulk_len d.items
 have hkl := cleanKs_len
 have hxs := cleanX_bulk (u := ks) d
 have hfl := fromP_len (cleanX ks d) (cleanX ks d).trailer
 refine AW.rS ?_
 refine AW.seq ?_
 refine AW.rSC ?_
 refine awOps.cons (awGuard.c1 (c_docs_Check _ d (by omega)) ?_)
 refine awOps.rn ?_
 refine AW.rS ?_
 refine AW.c2 ?_ ?_
 ·intro h7
  refine AW.rS ?_
  refine AW.rt ?_
  rw [cleanD, if_pos h7] <;> rfl
 ·intro h7
  have hxv := cleanX_ok (u := ks) h7
  have hfa := clean_facts (u := ks) h7 (by omega)
  refine AW.skip ?_
  refine AW.rSC ?_
  refine awOps.cons (awGuard.cHm [] (h_clean_set _ ks hl) ?_)
  refine awOps.rn ?_
  refine AW.rSC ?_
  refine awOps.cons (awGuard.c1 (c_value_Clone _ d.trailer (by omega)) ?_)
  refine awOps.rn ?_
  refine AW.seq ?_
  refine AW.rS ?_
  refine AW.block ?_
  refine AW.lk (S := { k : Nat // k ≤ cleanKs.length }) [2, 4, 7, 8, 28, 29] (fun s_ => [(30, .int .i64 s_.1)]) (fun s_ => [(0, .cells d.cells), (1, .cells [.raw (.slice none 0 0), .int .i64 0, .int .i64 0, .int .i64 0, .str [], .raw (.slice none 0 0), .raw (.slice none 0 0)]), (2, mapOf AV.str VB (keySet ks)), (3, .cells [.raw (.slice none 0 0), .int .i64 (cutN ks d.trailer s_.1).kind, .int .i64 (cutN ks d.trailer s_.1).num, .int .i64 (cutN ks d.trailer s_.1).gen, .str (cutN ks d.trailer s_.1).str, .sl (strsAV (cutN ks d.trailer s_.1).keys), .sl (objsAV (cutN ks d.trailer s_.1).kids)]), (4, .row 1 (strsAV cleanKs) true)]) 5 (fun s_ => cleanKs.length - s_.1) ⟨0, Nat.zero_le _⟩ ?_ ?_
  ·refine St.le.vx [0, 1, 2, 3, 4] ?_; rw [cutN_zero, cleanKs_av] <;> first | exact ⟨rfl, rfl⟩ | rfl
  rintro ⟨k, hk⟩
  try dsimp only at hk
  refine AW.rS ?_
  refine AW.seq ?_
  refine AW.c2 ?_ ?_
  ·intro h24
   have hk2 : k < cleanKs.length := by rw [cleanKs_len]; omega
   have hcb := cutN_bulk (u := ks) (t := d.trailer) k
   refine AW.skip ?_
   refine AW.seq ?_
   refine AW.block ?_
   refine AW.rS ?_
   refine AW.rSC ?_
   refine awOps.cons ?_
   refine awGuard.lkM keyOk_str false zero_vb (mres_key _ _) ?_
   refine awOps.rn ?_
   refine AW.c2 ?_ ?_
   ·intro h32
    have hcs := cutN_yes (t := d.trailer) hk2 h32
    refine AW.rLC ?_
    refine awOps.cons (awGuard.c1 (c_value_Drop _ (cutN ks d.trailer k) (cleanKs.getD k []) (by omega)) ?_)
    refine awOps.rn ?_
    refine AW.rL ?_
    refine ⟨⟨k + 1, by omega⟩, ?_, ?_⟩
    ·refine St.le.vx [0, 1, 2, 3, 4] ?_
     rw [hcs]
    ·simp only []; omega
   ·intro h32
    have hcs := cutN_no (t := d.trailer) hk2 h32
    refine AW.skip ?_
    refine AW.rL ?_
    refine ⟨⟨k + 1, by omega⟩, ?_, ?_⟩
    ·refine St.le.vx [0, 1, 2, 3, 4] ?_
     rw [hcs]
    ·simp only []; omega
  ·intro h24
   obtain rfl : k = cleanKs.length := by rw [cleanKs_len] at *; omega
   rw [cutN_end]
   refine AW.exit ?_
   refine AW.seq ?_
   refine AW.rS ?_
   refine AW.block ?_
   refine AW.pre (St.le.nilcell 3 0 8 (by (simp only [go_sem, seval]; try (simp (disch := omega) only [zq]; try (simp only [go_sem, seval]; try (simp (disch := omega) only [zq]; try simp only [go_sem, seval])))); exact rfl) (by exact rfl)) ?_
   refine wk ?_
   refine AW.lk (S := { i : Nat // i ≤ d.items.length }) [4, 7, 8, 44, 45] (fun s_ => [(46, .int .i64 s_.1)]) (fun s_ => [(0, .cells d.cells), (1, .cells [.raw (.slice none 0 0), .int .i64 0, .int .i64 0, .int .i64 0, .str [], .raw (.slice none 0 0), .raw (.slice none 0 0)]), (2, mapOf AV.str VB (keySet ks)), (3, .cells [.row 4 0 ((d.items.take s_.1).map (stripI ks)).length, .int .i64 (cleanT ks d.trailer).kind, .int .i64 (cleanT ks d.trailer).num, .int .i64 (cleanT ks d.trailer).gen, .str (cleanT ks d.trailer).str, .sl (strsAV (cleanT ks d.trailer).keys), .sl (objsAV (cleanT ks d.trailer).kids)]), (4, .row 8 (itemsAV ((d.items.take s_.1).map (stripI ks))) true)]) 5 (fun s_ => d.items.length - s_.1) ⟨0, Nat.zero_le _⟩ ?_ ?_
   ·refine St.le.vw [0, 1, 2, 3, 5]
   rintro ⟨i, hi⟩
   try dsimp only at hi
   refine AW.rS ?_
   refine AW.seq ?_
   refine AW.c2 ?_ ?_
   ·intro h48
    have hib := ibulk_get (l := d.items) (i := i) h48
    have hit := stripI_take (u := ks) (l := d.items) (i := i) h48
    have hic := (content_parts ((items_iff.1 (docE_items h7)).2 (d.items.getD i Itm.zero) (by rw [getD_zero h48]; exact List.getElem_mem _)).2).1
    refine AW.skip ?_
    refine AW.seq ?_
    refine AW.block ?_
    refine AW.rS ?_
    refine AW.rSC ?_
    refine awOps.cons (awGuard.c1 (c_clean_strip _ ks (d.items.getD i Itm.zero).obj 1 (by omega) hic) ?_)
    refine awOps.rn ?_
    refine AW.rL ?_
    refine AW.rL ?_
    refine ⟨⟨i + 1, by omega⟩, ?_, ?_⟩
    ·refine St.le.vx [0, 1, 2, 3, 7] ?_
     rw [hit]; exact ⟨by rw [List.length_append]; rfl, by rw [← app_itemsAV]; rfl⟩
    ·simp only []; omega
   ·intro h48
    obtain rfl : i = d.items.length := by omega
    rw [List.take_length]
    refine AW.exit ?_
    refine AW.rSC ?_
    refine awOps.cons ?_
    refine awGuard.mkM0 VB (keyOk_int .i64) ?_
    refine awOps.rn ?_
    refine AW.seq ?_
    refine AW.rSC ?_
    refine awOps.cons (awGuard.cL (h_graph_Reach _ (cleanX ks d) hxv (by omega)) ?_)
    refine awOps.rn ?_
    refine AW.block ?_
    refine AW.lk (S := { j : Nat // j ≤ (fromP (cleanX ks d) (cleanX ks d).trailer).length }) [4, 8, 13, 64, 65] (fun s_ => [(66, .int .i64 s_.1)]) (fun s_ => [(0, .cells d.cells), (1, .cells [.raw (.slice none 0 0), .int .i64 0, .int .i64 0, .int .i64 0, .str [], .raw (.slice none 0 0), .raw (.slice none 0 0)]), (2, mapOf AV.str VB (keySet ks)), (3, .cells [.row 4 0 (d.items.map (stripI ks)).length, .int .i64 (cleanT ks d.trailer).kind, .int .i64 (cleanT ks d.trailer).num, .int .i64 (cleanT ks d.trailer).gen, .str (cleanT ks d.trailer).str, .sl (strsAV (cleanT ks d.trailer).keys), .sl (objsAV (cleanT ks d.trailer).kids)]), (4, .row 8 (itemsAV (d.items.map (stripI ks))) true), (5, mapOf (AV.int .i64) VB (keySet ((fromP (cleanX ks d) (cleanX ks d).trailer).take s_.1))), (6, .cells [.map 5]), (7, .row 1 (intsAV (fromP (cleanX ks d) (cleanX ks d).trailer)) true)]) 8 (fun s_ => (fromP (cleanX ks d) (cleanX ks d).trailer).length - s_.1) ⟨0, Nat.zero_le _⟩ ?_ ?_
    ·refine St.le.vw [0, 1, 2, 3, 4, 5, 6, 7]
    rintro ⟨j, hj⟩
    try dsimp only at hj
    refine AW.rS ?_
    refine AW.seq ?_
    refine AW.c2 ?_ ?_
    ·intro h71
     have hkt := keySet_take (d := (0 : Int)) h71
     refine AW.skip ?_
     refine AW.seq ?_
     refine AW.block ?_
     refine AW.rS ?_
     refine AW.rLC ?_
     refine awOps.cons ?_
     refine awGuard.upM (keyOk_int .i64) true ?_
     refine awOps.rn ?_
     refine AW.rL ?_
     refine ⟨⟨j + 1, by omega⟩, ?_, ?_⟩
     ·refine St.le.vx [0, 1, 2, 3, 4, 5, 6, 7] ?_
      rw [hkt]
     ·simp only []; omega
    ·intro h71
     obtain rfl : j = (fromP (cleanX ks d) (cleanX ks d).trailer).length := by omega
     rw [List.take_length]
     refine AW.exit ?_
     refine AW.rSC ?_
     refine awOps.cons (awGuard.cHm [4, 6, 5] (h_DeleteFunc_gone _ (fromP (cleanX ks d) (cleanX ks d).trailer) (d.items.map (stripI ks)) (by rw [List.length_map]; omega)) ?_)
     refine awOps.rn ?_
     refine AW.rS ?_
     refine AW.rt ?_
     rw [hfa.e, h7, goneP_filter] <;> rfl
theorem c_clean_Left (gl : List (Nat × AV)) (d : Dc) (ks : List (List UInt8)) (h : d.bulk ≤ 16777000) (hl : ks.length ≤ 16777216) : FnP Tryz.prog (gl) 18 [.agg d.cells, .sl (strsAV ks)] fun r => r = .ret (.sl (intsAV (leftP ks d))) := by
 refine FnP.intro Tryz.func18 rfl rfl (by simp [Tryz.ntmps18]) ?_
 simp only [argEnv, Tryz.ntmps18, Tryz.results18]
 have hb8 : d.bulk = ibulk d.items + d.trailer.bulk := rfl
 have hb9 := ibulk_len d.items
 have hcb := cleanD_bulk (u := ks) d
 refine AW.rS ?_
 refine AW.rSC ?_
 refine awOps.cons (awGuard.c1 (c_clean_Doc _ d ks (by omega) hl) ?_)
 refine awOps.rn ?_
 refine AW.seq ?_
 refine AW.rS ?_
 refine AW.c2 ?_ ?_
 ·intro h7
  refine AW.rS ?_
  refine AW.rt ?_
  rw [leftP, if_pos h7] <;> rfl
 ·intro h7
  have hd0 : docE d = 0 := by simpa using h7
  refine AW.skip ?_
  refine AW.rS ?_
  refine AW.seq ?_
  refine AW.rS ?_
  refine AW.block ?_
  refine AW.pre (St.le.nilrow 7 1 (by (simp only [go_sem, seval]; try (simp (disch := omega) only [zq]; try (simp only [go_sem, seval]; try (simp (disch := omega) only [zq]; try simp only [go_sem, seval])))))) ?_
  refine wk ?_
  refine AW.lk (S := { i : Nat // i ≤ d.items.length }) [5, 21, 22] (fun s_ => [(7, .row 2 0 (((d.items.take s_.1).filter (leftI ks d)).map (·.num)).length), (23, .int .i64 s_.1)]) (fun s_ => [(0, .cells d.cells), (1, .cells (cleanD ks d).cells), (2, .row 1 (intsAV (((d.items.take s_.1).filter (leftI ks d)).map (·.num))) true)]) 3 (fun s_ => d.items.length - s_.1) ⟨0, Nat.zero_le _⟩ ?_ ?_
  ·refine St.le.vw [0, 1, 2]
  rintro ⟨i, hi⟩
  try dsimp only at hi
  refine AW.rS ?_
  refine AW.seq ?_
  refine AW.c2 ?_ ?_
  ·intro h19
   have hlt := left_take (p := leftI ks d) (l := d.items) h19
   have hll := left_len d.items (leftI ks d) i
   refine AW.skip ?_
   refine AW.seq ?_
   refine AW.block ?_
   refine AW.rS ?_
   refine AW.rSC ?_
   refine awOps.cons (awGuard.c1 (c_docs_Get _ (cleanD ks d) (d.items.getD i Itm.zero).num (by omega)) ?_)
   refine awOps.rn ?_
   refine AW.rS ?_
   refine AW.c2 ?_ ?_
   ·intro h28
    rw [if_pos (by unfold leftI; rw [h28]; rfl)] at hlt
    have hf2 := congrArg List.length hlt
    rw [List.length_append, List.length_cons, List.length_nil] at hf2
    refine AW.rL ?_
    refine AW.rL ?_
    refine ⟨⟨i + 1, by omega⟩, ?_, ?_⟩
    ·refine St.le.vx [0, 1, 6] ?_
     rw [hlt, take_intsAV, List.take_length, app1_intsAV]
    ·simp only []; omega
   ·intro h28
    rw [if_neg (by unfold leftI; rw [h28]; decide), List.append_nil] at hlt
    have hf2 := congrArg List.length hlt
    refine AW.skip ?_
    refine AW.rL ?_
    refine ⟨⟨i + 1, by omega⟩, ?_, ?_⟩
    ·refine St.le.vx [0, 1, 2] ?_; rw [hlt]
    ·simp only []; omega
  ·intro h19
   refine AW.exit ?_
   obtain rfl : i = d.items.length := by omega
   rw [List.take_length]
   refine AW.rS ?_
   refine AW.rt ?_
   rw [leftP, if_neg (by simpa using hd0), take_intsAV, List.take_length]
end Go.Proofs

namespace Go.Proofs
open Go Aw
set_option linter.unusedSimpArgs false
set_option linter.unusedVariables false
set_option maxRecDepth 100000
set_option maxHeartbeats 2000000

attribute [local go_sem] take_strsAV app1_strsAV take_intsAV app1_intsAV take_objsAV app1_objsAV
end Go.Proofs

namespace Go.Proofs
open Go Aw
set_option linter.unusedSimpArgs false
set_option linter.unusedVariables false
set_option maxRecDepth 100000
set_option maxHeartbeats 2000000

end Go.Proofs

namespace Go.Proofs
open Go Aw
set_option linter.unusedSimpArgs false
set_option linter.unusedVariables false
set_option maxRecDepth 100000
set_option maxHeartbeats 2000000
attribute [local go_sem] take_strsAV app1_strsAV take_intsAV app1_intsAV take_objsAV app1_objsAV
end Go.Proofs

namespace Go.Proofs
open Go Aw
set_option linter.unusedSimpArgs false
set_option linter.unusedVariables false
set_option maxRecDepth 100000
set_option maxHeartbeats 2000000
attribute [local go_sem] take_strsAV app1_strsAV take_intsAV app1_intsAV take_objsAV app1_objsAV
end Go.Proofs

namespace Go.Proofs
open Go Aw
set_option linter.unusedSimpArgs false
set_option linter.unusedVariables false
set_option maxRecDepth 100000
set_option maxHeartbeats 2000000
attribute [local go_sem] take_strsAV app1_strsAV take_intsAV app1_intsAV take_objsAV app1_objsAV
end Go.Proofs

namespace Go.Proofs
open Go Aw
set_option linter.unusedSimpArgs false
set_option linter.unusedVariables false
set_option maxRecDepth 100000
set_option maxHeartbeats 2000000
attribute [local go_sem] take_strsAV app1_strsAV take_intsAV app1_intsAV take_objsAV app1_objsAV
theorem app1_itemsAV (a : List Itm) (i : Itm) : itemsAV a ++ [[.int .i64 i.num, .int .i64 i.gen, .int .i64 i.obj.kind, .int .i64 i.obj.num, .int .i64 i.obj.gen, .str i.obj.str, .sl (strsAV i.obj.keys), .sl (objsAV i.obj.kids)]] = itemsAV (a ++ [i]) := by
 simp only [itemsAV, List.map_append, List.map_cons, List.map_nil]
 rfl
attribute [local go_sem] take_itemsAV app_itemsAV app1_itemsAV
theorem c_foliantref19_SameItems (gl : List (Nat × AV)) (a b : List Itm) (ha : ibulk a ≤ 16777216) : FnP Tryz.prog (gl) 49 [.sl (itemsAV a), .sl (itemsAV b)] fun r => r = .ret (.bool (decide (a = b))) := by
 refine FnP.intro Tryz.func49 rfl rfl (by simp [Tryz.ntmps49]) ?_
 simp only [argEnv, Tryz.ntmps49, Tryz.results49]
 have hla := ibulk_len a
 refine AW.rS ?_
 refine AW.seq ?_
 refine AW.rS ?_
 refine AW.c2 ?_ ?_
 ·intro h4
  refine AW.rS ?_
  refine AW.rt ?_
  rw [decide_eq_false (fun e => h4 (by rw [e]))]
 ·intro h4
  refine AW.skip ?_
  refine AW.seq ?_
  refine AW.rS ?_
  refine AW.block ?_
  refine AW.lk (S := { i : Nat // i ≤ a.length ∧ a.take i = b.take i }) [0, 1, 12] (fun s_ => [(13, .int .i64 s_.1)]) (fun s_ => []) 0 (fun s_ => a.length - s_.1) ⟨0, Nat.zero_le _, rfl⟩ ?_ ?_
  ·refine St.le.vw []
  rintro ⟨i, hi, hs⟩
  try dsimp only at hi
  try dsimp only at hs
  refine AW.rS ?_
  refine AW.seq ?_
  refine AW.c2 ?_ ?_
  ·intro h15
   have hga := ibulk_get (l := a) (i := i) (by omega)
   refine AW.skip ?_
   refine AW.seq ?_
   refine AW.block ?_
   refine AW.rS ?_
   refine AW.fS [0, 1, 2, 3, 4, 5, 6, 7, 8, 9] [] ?_
   refine awFun.rn ?_
   refine awFun.c1 [19, 23] (c_foliantref19_SameItem _ (a.getD i Itm.zero) (b.getD i Itm.zero) (by omega)) ?_
   refine awFun.rn ?_
   rw [Aw.awFun_nil, Aw.awPlan_nil]
   refine AW.c2 ?_ ?_
   ·intro h25
    refine AW.rS ?_
    refine AW.rt ?_
    rw [decide_eq_false (fun e => h25 (by rw [e]))]
   ·intro h25
    refine AW.skip ?_
    refine AW.rL ?_
    refine ⟨⟨i + 1, by omega, takeItm_succ h15 (by omega) hs h25⟩, ?_, ?_⟩
    ·refine St.le.vw []
    ·simp only []; omega
  ·intro h15
   refine AW.exit ?_
   refine AW.rS ?_
   refine AW.rt ?_
   rw [List.take_of_length_le (by omega), List.take_of_length_le (by omega)] at hs
   simp [hs]
theorem c_foliantref19_Same (gl : List (Nat × AV)) (a b : Dc) (h : a.bulk ≤ 16777216) : FnP Tryz.prog (gl) 16 [.agg a.cells, .agg b.cells] fun r => r = .ret (.bool (decide (a = b))) := by
 refine FnP.intro Tryz.func16 rfl rfl (by simp [Tryz.ntmps16]) ?_
 simp only [argEnv, Tryz.ntmps16, Tryz.results16]
 simp only [Dc.bulk] at h
 refine AW.rS ?_
 refine AW.rSC ?_
 refine awOps.cons (awGuard.c1 (c_foliantref19_SameItems _ a.items b.items (by omega)) ?_)
 refine awOps.rn ?_
 refine awOps.cons (awGuard.cG (fun hg => c_foliantref05_Same _ a.trailer b.trailer (by omega)) ?_)
 refine awOps.rn ?_
 refine AW.rt ?_
 rw [show ∀ x y : Bool, x = y → AE.ret (.bool x) = AE.ret (.bool y) from fun _ _ h => by rw [h]]
 rw [Bool.eq_iff_iff]
 simp only [decide_eq_true_eq, Bool.cond_false_right, Bool.and_eq_true, Dc_eq a b]
end Go.Proofs

namespace Go.Proofs
open Go Aw
set_option linter.unusedSimpArgs false
set_option linter.unusedVariables false
set_option maxRecDepth 100000
set_option maxHeartbeats 1000000
attribute [local go_sem ↓ high] noTBm_net
attribute [local go_sem] mres netL_nil
end Go.Proofs

namespace Go.Proofs
open Go Aw
set_option linter.unusedSimpArgs false
set_option linter.unusedVariables false
set_option maxRecDepth 100000
set_option maxHeartbeats 1000000
attribute [local go_sem ↓ high] noTBm_net
attribute [local go_sem] mres netL_nil
end Go.Proofs

namespace Go.Proofs
open Go Aw
set_option linter.unusedSimpArgs false
set_option linter.unusedVariables false
set_option maxRecDepth 100000
set_option maxHeartbeats 2000000
attribute [local go_sem] take_strsAV app1_strsAV take_intsAV app1_intsAV take_objsAV app1_objsAV
theorem kidR_zero (l : List Pob) (s : List Int) : kidR (l.take 0) s = s := rfl
theorem intsAV_one (n : Int) : intsAV [n] = [[.int .i64 n]] := rfl
attribute [local go_sem] kidR_zero intsAV_one
end Go.Proofs

namespace Go.Proofs
open Go Aw
set_option linter.unusedSimpArgs false
set_option linter.unusedVariables false
set_option maxRecDepth 100000
set_option maxHeartbeats 2000000
attribute [local go_sem] take_strsAV app1_strsAV take_intsAV app1_intsAV take_objsAV app1_objsAV
end Go.Proofs

namespace Go.Proofs
open Go Aw
set_option linter.unusedSimpArgs false
set_option linter.unusedVariables false
set_option maxRecDepth 100000
set_option maxHeartbeats 2000000
attribute [local go_sem] take_strsAV app1_strsAV take_intsAV app1_intsAV take_objsAV app1_objsAV
end Go.Proofs

namespace Go.Proofs
open Go Aw
set_option linter.unusedSimpArgs false
set_option linter.unusedVariables false
set_option maxRecDepth 100000
set_option maxHeartbeats 2000000
attribute [local go_sem] take_strsAV app1_strsAV take_intsAV app1_intsAV take_objsAV app1_objsAV
theorem userL_nil (d : Dc) (n : Int) : userL d n [] = [] := rfl
attribute [local go_sem] userL_nil
end Go.Proofs

namespace Go.Proofs
open Go Aw
set_option linter.unusedSimpArgs false
set_option linter.unusedVariables false
set_option maxRecDepth 100000
set_option maxHeartbeats 4000000
attribute [local go_sem] take_strsAV app1_strsAV take_intsAV app1_intsAV take_objsAV app1_objsAV
end Go.Proofs

namespace Go.Proofs
open Go Aw
set_option linter.unusedSimpArgs false
set_option linter.unusedVariables false
set_option maxRecDepth 100000
set_option maxHeartbeats 4000000
attribute [local go_sem] take_strsAV app1_strsAV take_intsAV app1_intsAV take_objsAV app1_objsAV List.length_append List.length_cons List.length_nil List.length_drop List.length_take Nat.sub_zero
end Go.Proofs

namespace Go.Proofs
open Go Aw
set_option linter.unusedSimpArgs false
set_option linter.unusedVariables false
set_option maxRecDepth 100000
set_option maxHeartbeats 4000000
attribute [local go_sem] take_strsAV app1_strsAV take_intsAV app1_intsAV take_objsAV app1_objsAV
theorem lostI_nil (m : List Int) : lostI m [] = [] := rfl
attribute [local go_sem] lostI_nil
end Go.Proofs

namespace Go.Proofs
open Go Aw
set_option linter.unusedSimpArgs false
set_option linter.unusedVariables false
set_option maxRecDepth 100000
set_option maxHeartbeats 4000000
attribute [local go_sem] take_strsAV app1_strsAV take_intsAV app1_intsAV take_objsAV app1_objsAV
theorem dangI_nil (d : Dc) : dangI d [] = [] := rfl
attribute [local go_sem] dangI_nil List.length_append
end Go.Proofs

namespace Go.Proofs
open Go Aw
set_option linter.unusedSimpArgs false
set_option linter.unusedVariables false
set_option maxRecDepth 100000
set_option maxHeartbeats 2000000
attribute [local go_sem] take_strsAV app1_strsAV take_intsAV app1_intsAV take_objsAV app1_objsAV
def usualKs : List (List UInt8) := [[65, 65], [74, 83], [74, 97, 118, 97, 83, 99, 114, 105, 112, 116], [76, 97, 117, 110, 99, 104], [77, 101, 116, 97, 100, 97, 116, 97], [79, 112, 101, 110, 65, 99, 116, 105, 111, 110], [80, 105, 101, 99, 101, 73, 110, 102, 111]]
theorem c_clean_Usual (gl : List (Nat × AV))  : FnP Tryz.prog (gl) 28 [] fun r => r = .ret (.sl (strsAV usualKs)) := by
 refine FnP.intro Tryz.func28 rfl rfl (by simp [Tryz.ntmps28]) ?_
 simp only [argEnv, Tryz.ntmps28, Tryz.results28]
 refine AW.rS ?_
 refine AW.rS ?_
 refine AW.rt ?_
 all_goals first | contradiction | rfl | (simp; done) | (simp; omega)
theorem c_foliantref31_Usual (gl : List (Nat × AV))  : FnP Tryz.prog (gl) 32 [] fun r => r = .ret (.sl (strsAV usualKs)) := by
 refine FnP.intro Tryz.func32 rfl rfl (by simp [Tryz.ntmps32]) ?_
 simp only [argEnv, Tryz.ntmps32, Tryz.results32]
 refine AW.rS ?_
 refine AW.rS ?_
 refine AW.rt ?_
 all_goals first | contradiction | rfl | (simp; done) | (simp; omega)
end Go.Proofs

namespace Aw
open Go
variable {u : List (List UInt8)}
/-- the items kept up to 'i', and this one if it is among the first 'k' numbers -/
def outL (X : List Itm) (R : List Int) (i k : Nat) : List Itm := ((X.take i).filter fun x => decide (x.num ∈ R)) ++ if (X.getD i Itm.zero).num ∈ R.take k then [X.getD i Itm.zero] else []
def outF (X : List Itm) (R : List Int) (i : Nat) : List Itm := (X.take i).filter fun x => decide (x.num ∈ R)
attribute [irreducible] outL outF
end Aw

namespace Go.Proofs
open Go Aw
set_option linter.unusedSimpArgs false
set_option linter.unusedVariables false
set_option maxRecDepth 100000
set_option maxHeartbeats 2000000
attribute [local go_sem] take_itemsAV app_itemsAV itemsAV_length
end Go.Proofs

namespace Aw
open Go
def ksum (l : List (List UInt8)) : Int := (l.map fun k => (k.length : Int)).sum
theorem ksum_take {l : List (List UInt8)} {i : Nat} (h : i < l.length) : ksum (l.take (i + 1)) = ksum (l.take i) + (l.getD i []).length := by
 unfold ksum
 rw [List.take_succ_eq_append_getElem h, List.map_append, List.sum_append]
 simp [List.getD, h]
theorem ksum_nn (l : List (List UInt8)) : 0 ≤ ksum l := by
 unfold ksum
 induction l with
 | nil => simp
 | cons k l ih => simp only [List.map_cons, List.sum_cons]; omega
theorem ksum_get {l : List (List UInt8)} {i : Nat} (h : i < l.length) : ksum (l.take i) + (l.getD i []).length ≤ ksum l := by
 rw [← ksum_take h]
 have e : ksum l = ksum (l.take (i + 1)) + ksum (l.drop (i + 1)) := by
  unfold ksum
  rw [← List.sum_append, ← List.map_append, List.take_append_drop]
 have := ksum_nn (l.drop (i + 1))
 omega
def lightB (l : List (List UInt8)) : Bool := bif decide ((l.length : Int) ≤ 20) then decide (ksum l ≤ 1000) else false
def smallB (d : Dc) : Bool := bif decide ((d.items.length : Int) ≤ 60) then decide ((d.size : Int) ≤ 3000) else false
def dict1 (k : List UInt8) (v : Pob) : Pob := .mk 7 0 0 [] [k] [v]
variable {u : List (List UInt8)}
theorem keyed_hit {o : Pob} {i k : Nat} (hi : i < o.keys.length) (hk : k < u.length) (e : o.keys.getD i [] = u.getD k []) : keyedIn u o = true := by
 rw [keyedIn_eq, Bool.or_eq_true]
 refine .inl (List.any_eq_true.2 ⟨o.keys[i], List.getElem_mem hi, ?_⟩)
 have e1 : o.keys.getD i [] = o.keys[i] := by simp [List.getD, hi]
 have e2 : u.getD k [] = u[k] := by simp [List.getD, hk]
 rw [← e1, e, e2]
 exact decide_eq_true (List.getElem_mem hk)
theorem keyed_kid {o : Pob} {i : Nat} (hi : i < o.kids.length) (e : keyedIn u (o.kids.getD i Pob.null) = true) : keyedIn u o = true := by
 rw [keyedIn_eq, Bool.or_eq_true, keyedInL_any]
 refine .inr (List.any_eq_true.2 ⟨o.kids[i], List.getElem_mem hi, ?_⟩)
 have e1 : o.kids.getD i Pob.null = o.kids[i] := by simp [List.getD, hi]
 rw [← e1]
 exact e
theorem keyed_none {o : Pob} (h1 : ∀ i, i < o.keys.length → ¬ o.keys.getD i [] ∈ u) (h2 : ∀ i, i < o.kids.length → keyedIn u (o.kids.getD i Pob.null) = false) : keyedIn u o = false := by
 rw [keyedIn_eq, Bool.or_eq_false_iff, keyedInL_any]
 refine ⟨List.any_eq_false.2 fun k hk => ?_, List.any_eq_false.2 fun x hx => ?_⟩
 ·obtain ⟨i, hi, rfl⟩ := List.getElem_of_mem hk
  have := h1 i hi
  simpa [List.getD, hi] using this
 ·obtain ⟨i, hi, rfl⟩ := List.getElem_of_mem hx
  have := h2 i hi
  simpa [List.getD, hi] using this
theorem not_mem_of {s : List UInt8} (h : ∀ k, k < u.length → s ≠ u.getD k []) : ¬ s ∈ u := by
 intro hm
 obtain ⟨k, hk, e⟩ := List.getElem_of_mem hm
 exact h k hk (by simp [List.getD, hk, e])
theorem ks_sizes (l : List (List UInt8)) : l.length ≤ (l.map fun k => k.length + 1).sum ∧ ksum l ≤ ((l.map fun k => k.length + 1).sum : Nat) := by
 unfold ksum
 induction l with
 | nil => simp
 | cons k l ih => simp only [List.map_cons, List.sum_cons, List.length_cons]; omega
end Aw

namespace Go.Proofs
open Go Aw
set_option linter.unusedSimpArgs false
set_option linter.unusedVariables false
set_option maxRecDepth 100000
set_option maxHeartbeats 2000000
theorem takeInt_succ {a b : List Int} {i : Nat} (h : i < a.length) (hl : a.length = b.length) (he : a.take i = b.take i) (hg : a.getD i 0 = b.getD i 0) : a.take (i + 1) = b.take (i + 1) := by
 rw [List.take_add_one, List.take_add_one, he]
 rw [List.getD, List.getD] at hg
 rw [List.getElem?_eq_getElem h, List.getElem?_eq_getElem (show i < b.length by omega)] at hg ⊢
 simp only [Option.getD_some] at hg
 rw [hg]
theorem c_foliantref05_Ints (gl : List (Nat × AV)) (a b : List Int) (ha : a.length ≤ 16777216 := by first | omega | exact u8_le _ | assumption | (simp; done) | (simp; omega)) : FnP Tryz.prog (gl) 17 [.sl (intsAV a), .sl (intsAV b)] fun r => r = .ret (.bool (decide (a = b))) := by
 refine FnP.intro Tryz.func17 rfl rfl (by simp [Tryz.ntmps17]) ?_
 simp only [argEnv, Tryz.ntmps17, Tryz.results17]
 refine AW.rS ?_
 refine AW.seq ?_
 refine AW.rS ?_
 refine AW.c2 ?_ ?_
 ·intro h4
  refine AW.rS ?_
  refine AW.rt ?_
  rw [decide_eq_false (fun e => h4 (by rw [e]))]
 ·intro h4
  refine AW.skip ?_
  refine AW.seq ?_
  refine AW.rS ?_
  refine AW.block ?_
  refine AW.lk (S := { i : Nat // i ≤ a.length ∧ a.take i = b.take i }) [0, 1, 12] (fun s_ => [(13, .int .i64 s_.1)]) (fun s_ => []) 0 (fun s_ => a.length - s_.1) ⟨0, Nat.zero_le _, rfl⟩ ?_ ?_
  ·refine St.le.vw []
  rintro ⟨i, hi, hs⟩
  try dsimp only at hi
  try dsimp only at hs
  refine AW.rS ?_
  refine AW.seq ?_
  refine AW.c2 ?_ ?_
  ·intro h15
   refine AW.skip ?_
   refine AW.seq ?_
   refine AW.block ?_
   refine AW.rS ?_
   refine AW.dS [(0, 0), (1, 0), (2, 1), (3, 1), (4, 0), (5, 0), (6, 1), (7, 1), (8, 0)] ?_
   refine AW.c2 ?_ ?_
   ·intro h21
    refine AW.rS ?_
    refine AW.rt ?_
    rw [decide_eq_false (fun e => h21 (by rw [e]))]
   ·intro h21
    refine AW.skip ?_
    refine AW.rL ?_
    refine ⟨⟨i + 1, by omega, takeInt_succ h15 (by omega) hs h21⟩, ?_, ?_⟩
    ·refine St.le.vw []
    ·simp only []; omega
  ·intro h15
   refine AW.exit ?_
   refine AW.rS ?_
   refine AW.rt ?_
   rw [List.take_of_length_le (by omega), List.take_of_length_le (by omega)] at hs
   simp [hs]
end Go.Proofs

set_option linter.unusedVariables false
set_option linter.unusedSimpArgs false
namespace Aw
open Go
end Aw

namespace Go.Proofs
open Go.Shelf
open Go.RowKit Go.Lib in
open Aw
set_option linter.unusedSimpArgs false
set_option linter.unusedVariables false
set_option maxRecDepth 100000
set_option maxHeartbeats 2000000
end Go.Proofs

set_option linter.unusedVariables false
set_option linter.unusedSimpArgs false
namespace Aw
open Go
abbrev Prs := List (List UInt8 × Pob)
def pairsAV (l : Prs) : List (List AV) := l.map fun p => [.str p.1, .int .i64 p.2.kind, .int .i64 p.2.num, .int .i64 p.2.gen, .str p.2.str, .sl (strsAV p.2.keys), .sl (objsAV p.2.kids)]
theorem pairsAV_ok (l : Prs) : (∀ e ∈ pairsAV l, okRow 7 e = true) = True := by
 simp only [pairsAV, List.mem_map, eq_iff_iff, iff_true]
 rintro e ⟨b, _, rfl⟩
 rfl
theorem pairsAV_len7 (l : Prs) : (∀ e ∈ pairsAV l, e.length = 7) = True := by
 simp only [pairsAV, List.mem_map, eq_iff_iff, iff_true]
 rintro e ⟨b, _, rfl⟩
 rfl
end Aw
namespace Aw
open Go
end Aw

namespace Aw
open Go
/-! the new document -/
end Aw

namespace Go.Proofs
open Go Aw
set_option linter.unusedSimpArgs false
set_option linter.unusedVariables false
set_option maxRecDepth 100000
set_option maxHeartbeats 2000000
attribute [local go_sem] pairsAV_ok pairsAV_len7
end Go.Proofs

set_option linter.unusedVariables false
set_option linter.unusedSimpArgs false
namespace Aw
open Go
section
variable {d : Dc} {k t : List UInt8} {v : Pob}
end
end Aw

namespace Go.Proofs
open Go Aw
set_option linter.unusedSimpArgs false
set_option linter.unusedVariables false
set_option maxRecDepth 100000
set_option maxHeartbeats 2000000
theorem c_foliantref05_Int (gl : List (Nat × AV)) (n : Int) : FnP Tryz.prog (gl) 30 [.int .i64 n] fun r => r = .ret (.agg (intO n).cells) := by
 refine FnP.intro Tryz.func30 rfl rfl (by simp [Tryz.ntmps30]) ?_
 simp only [argEnv, Tryz.ntmps30, Tryz.results30]
 refine AW.rS ?_
 refine AW.rS ?_
 refine AW.rt ?_
 all_goals first | contradiction | rfl | (simp; done) | (simp; omega)
theorem c_foliantref05_Ref (gl : List (Nat × AV)) (n g : Int) : FnP Tryz.prog (gl) 26 [.int .i64 n, .int .i64 g] fun r => r = .ret (.agg (refO n g).cells) := by
 refine FnP.intro Tryz.func26 rfl rfl (by simp [Tryz.ntmps26]) ?_
 simp only [argEnv, Tryz.ntmps26, Tryz.results26]
 refine AW.rS ?_
 refine AW.rS ?_
 refine AW.rt ?_
 all_goals first | contradiction | rfl | (simp; done) | (simp; omega)
theorem c_foliantref05_Key (gl : List (Nat × AV)) (s : List UInt8) : FnP Tryz.prog (gl) 27 [.str s] fun r => r = .ret (.agg (nameO s).cells) := by
 refine FnP.intro Tryz.func27 rfl rfl (by simp [Tryz.ntmps27]) ?_
 simp only [argEnv, Tryz.ntmps27, Tryz.results27]
 refine AW.rS ?_
 refine AW.rS ?_
 refine AW.rt ?_
 all_goals first | contradiction | rfl | (simp; done) | (simp; omega)
theorem c_foliantref05_Array (gl : List (Nat × AV)) (l : List Pob) : FnP Tryz.prog (gl) 29 [.sl (objsAV l)] fun r => r = .ret (.agg (arrO l).cells) := by
 refine FnP.intro Tryz.func29 rfl rfl (by simp [Tryz.ntmps29]) ?_
 simp only [argEnv, Tryz.ntmps29, Tryz.results29]
 refine AW.rS ?_
 refine AW.rS ?_
 refine AW.rt ?_
 all_goals first | contradiction | rfl | (simp; done) | (simp; omega)
end Go.Proofs

namespace Go.Proofs
open Go Aw
set_option linter.unusedSimpArgs false
set_option linter.unusedVariables false
set_option maxRecDepth 100000
set_option maxHeartbeats 2000000
theorem c_foliantlaw31_light (gl : List (Nat × AV)) (l : List (List UInt8)) (hl : l.length ≤ 16777216) (hs : ksum l ≤ 16777216) : FnP Tryz.prog (gl) 7 [.sl (strsAV l)] fun r => r = .ret (.bool (lightB l)) := by
 refine FnP.intro Tryz.func7 rfl rfl (by simp [Tryz.ntmps7]) ?_
 simp only [argEnv, Tryz.ntmps7, Tryz.results7]
 refine AW.rS ?_
 refine AW.rS ?_
 refine AW.seq ?_
 refine AW.rS ?_
 refine AW.block ?_
 refine AW.lk (S := { i : Nat // i ≤ l.length }) [0] (fun s_ => [(3, .int .i64 (ksum (l.take s_.1))), (4, .int .i64 s_.1)]) (fun s_ => []) 0 (fun s_ => l.length - s_.1) ⟨0, Nat.zero_le _⟩ ?_ ?_
 ·refine St.le.vw []
 rintro ⟨i, hi⟩
 try dsimp only at hi
 refine AW.seq ?_
 refine AW.rS ?_
 refine AW.c2 ?_ ?_
 ·intro h9
  have hkt := ksum_take h9
  have hkg := ksum_get h9
  have hkn := ksum_nn (l.take i)
  refine AW.skip ?_
  refine AW.seq ?_
  refine AW.block ?_
  refine AW.rL ?_
  refine AW.rL ?_
  refine ⟨⟨i + 1, by omega⟩, ?_, ?_⟩
  ·refine St.le.vw []
  ·simp only []; omega
 ·intro h9
  refine AW.exit ?_
  obtain rfl : i = l.length := by omega
  rw [List.take_length]
  refine AW.rS ?_
  refine AW.rt ?_
  rfl
theorem c_foliantlaw31_small (gl : List (Nat × AV)) (d : Dc) (h : d.bulk ≤ 16777216) (hp : d.size ≤ 4611686018427387904) : FnP Tryz.prog (gl) 13 [.agg d.cells] fun r => r = .ret (.bool (smallB d)) := by
 refine FnP.intro Tryz.func13 rfl rfl (by simp [Tryz.ntmps13]) ?_
 simp only [argEnv, Tryz.ntmps13, Tryz.results13]
 refine AW.rS ?_
 refine AW.rSC ?_
 refine awOps.cons (awGuard.cG (fun hg => c_foliantref19_Size _ d h hp) ?_)
 refine awOps.rn ?_
 refine AW.rt ?_
 all_goals first | contradiction | rfl | (simp; done) | (simp; omega)
theorem c_foliantlaw31_dict (gl : List (Nat × AV)) (k : List UInt8) (v : Pob) : FnP Tryz.prog (gl) 25 [.str k, .agg v.cells] fun r => r = .ret (.agg (dict1 k v).cells) := by
 refine FnP.intro Tryz.func25 rfl rfl (by simp [Tryz.ntmps25]) ?_
 simp only [argEnv, Tryz.ntmps25, Tryz.results25]
 refine AW.rS ?_
 refine AW.rS ?_
 refine AW.rt ?_
 ·simp [dict1, Pob.kind, Pob.num, Pob.gen, Pob.str, Pob.keys, Pob.kids, objsAV, strsAV, Pob.cells_eq]
 all_goals first | contradiction | rfl | (simp; done) | (simp; omega)
theorem keyed_step (gl : List (Nat × AV)) (ks : List (List UInt8)) (hks : ks.length ≤ 16777216) (n : Nat) (hN : n ≤ 16777000) (ih : ∀ o' : Pob, o'.bulk ≤ n → FnP Tryz.prog gl 24 [.agg o'.cells, .sl (strsAV ks)] fun r => r = .ret (.bool (keyedIn ks o'))) (o : Pob) (ho : o.bulk ≤ n + 1) : FnP Tryz.prog (gl) 24 [.agg o.cells, .sl (strsAV ks)] fun r => r = .ret (.bool (keyedIn ks o)) := by
 refine FnP.intro Tryz.func24 rfl rfl (by simp [Tryz.ntmps24]) ?_
 simp only [argEnv, Tryz.ntmps24, Tryz.results24]
 have hb := Pob.bulk_eq o
 refine AW.rS ?_
 refine AW.seq ?_
 refine AW.rS ?_
 refine AW.block ?_
 refine AW.lk (S := { i : Nat // i ≤ o.keys.length ∧ ∀ j, j < i → ¬ o.keys.getD j [] ∈ ks }) [1, 2] (fun s_ => [(5, .int .i64 s_.1)]) (fun s_ => [(0, .cells o.cells)]) 1 (fun s_ => o.keys.length - s_.1) ⟨0, Nat.zero_le _, fun j h => absurd h (by omega)⟩ ?_ ?_
 ·refine St.le.vw [0]
 rintro ⟨i, hi, hs⟩
 try dsimp only at hi
 try dsimp only at hs
 refine AW.seq ?_
 refine AW.rS ?_
 refine AW.c2 ?_ ?_
 ·intro h8
  refine AW.skip ?_
  refine AW.seq ?_
  refine AW.block ?_
  refine AW.rS ?_
  refine AW.block ?_
  refine AW.lk (S := { k : Nat // k ≤ ks.length ∧ ∀ j, j < k → o.keys.getD i [] ≠ ks.getD j [] }) [1, 2, 5] (fun s_ => [(6, .int .i64 s_.1)]) (fun s_ => [(0, .cells o.cells)]) 1 (fun s_ => ks.length - s_.1) ⟨0, Nat.zero_le _, fun j h => absurd h (by omega)⟩ ?_ ?_
  ·refine St.le.vw [0]
  rintro ⟨k, hk, hq⟩
  try dsimp only at hk
  try dsimp only at hq
  refine AW.seq ?_
  refine AW.rS ?_
  refine AW.c2 ?_ ?_
  ·intro h17
   refine AW.skip ?_
   refine AW.seq ?_
   refine AW.block ?_
   refine AW.fS [0, 1, 2, 3, 4, 5, 6, 7, 8, 9] [] ?_
   refine awFun.rn ?_
   rw [Aw.awFun_nil, Aw.awPlan_nil]
   refine AW.c2 ?_ ?_
   ·intro h24
    refine AW.rS ?_
    refine AW.rt ?_
    rw [keyed_hit h8 h17 h24]
   ·intro h24
    refine AW.skip ?_
    refine AW.rL ?_
    refine ⟨⟨k + 1, by omega, fun j hj => (Nat.lt_or_ge j k).elim (hq j) (fun h => (show j = k by omega) ▸ h24)⟩, ?_, ?_⟩
    ·refine St.le.vw [0]
    ·simp only []; omega
  ·intro h17
   refine AW.exit ?_
   refine AW.rL ?_
   refine ⟨⟨i + 1, by omega, fun j hj => (Nat.lt_or_ge j i).elim (hs j) (fun h => (show j = i by omega) ▸ not_mem_of (fun q hq2 => hq q (by omega)))⟩, ?_, ?_⟩
   ·refine St.le.vw [0]
   ·simp only []; omega
 ·intro h8
  refine AW.exit ?_
  refine AW.seq ?_
  refine AW.rS ?_
  refine AW.block ?_
  refine AW.lk (S := { i : Nat // i ≤ o.kids.length ∧ ∀ j, j < i → keyedIn ks (o.kids.getD j Pob.null) = false }) [1, 2] (fun s_ => [(7, .int .i64 s_.1)]) (fun s_ => [(0, .cells o.cells)]) 1 (fun s_ => o.kids.length - s_.1) ⟨0, Nat.zero_le _, fun j h => absurd h (by omega)⟩ ?_ ?_
  ·refine St.le.vw [0]
  rintro ⟨q, hq, hr⟩
  try dsimp only at hq
  try dsimp only at hr
  refine AW.seq ?_
  refine AW.rS ?_
  refine AW.c2 ?_ ?_
  ·intro h41
   have hkb := Pob.bulk_kid (o := o) (i := q) (by omega)
   refine AW.skip ?_
   refine AW.seq ?_
   refine AW.block ?_
   refine AW.rSC ?_
   refine awOps.cons (awGuard.c1 (ih (o.kids.getD q Pob.null) (by omega)) ?_)
   refine awOps.rn ?_
   refine AW.c2 ?_ ?_
   ·intro h48
    refine AW.rS ?_
    refine AW.rt ?_
    rw [keyed_kid h41 h48]
   ·intro h48
    refine AW.skip ?_
    refine AW.rL ?_
    refine ⟨⟨q + 1, by omega, fun j hj => (Nat.lt_or_ge j q).elim (hr j) (fun h => (show j = q by omega) ▸ h48)⟩, ?_, ?_⟩
    ·refine St.le.vw [0]
    ·simp only []; omega
  ·intro h41
   refine AW.exit ?_
   refine AW.rS ?_
   refine AW.rt ?_
   rw [keyed_none (fun j hj => hs j (by omega)) (fun j hj => hr j (by omega))]
theorem keyed_all (gl : List (Nat × AV)) (ks : List (List UInt8)) (hks : ks.length ≤ 16777216) : ∀ (n : Nat), n ≤ 16777000 → ∀ (o : Pob), o.bulk ≤ n → FnP Tryz.prog gl 24 [.agg o.cells, .sl (strsAV ks)] fun r => r = .ret (.bool (keyedIn ks o))
 | 0, _, o, ho => by have := Pob.bulk_pos o; omega
 | n + 1, hn, o, ho => keyed_step gl ks hks n (by omega) (fun o' h1 => keyed_all gl ks hks n (by omega) o' h1) o ho
theorem c_foliantlaw31_keyed (gl : List (Nat × AV)) (ks : List (List UInt8)) (o : Pob) (hks : ks.length ≤ 16777216) (ho : o.bulk ≤ 16777000) : FnP Tryz.prog gl 24 [.agg o.cells, .sl (strsAV ks)] fun r => r = .ret (.bool (keyedIn ks o)) := keyed_all gl ks hks 16777000 (Nat.le_refl _) o ho
end Go.Proofs

namespace Aw
open Go
theorem sortI_id {s t : List Int} (ht : t.Pairwise (· < ·)) (hp : s.Perm t) : sortI s = t := by
 have hn : s.Nodup := hp.nodup_iff.2 (ht.imp fun h => Int.ne_of_lt h)
 exact lt_ext (sortI_lt hn) ht (fun n => by rw [sortI_mem]; exact hp.mem_iff)
end Aw

namespace Go.Proofs
open Go Aw
set_option linter.unusedSimpArgs false
set_option linter.unusedVariables false
set_option maxRecDepth 100000
set_option maxHeartbeats 4000000
def cOpen : List UInt8 := [79, 112, 101, 110, 65, 99, 116, 105, 111, 110]
def cNil : Pob := .mk 7 0 0 [] [] []
def clD : Dc := ⟨[⟨1, 0, dict1 [79, 112, 101, 110, 65, 99, 116, 105, 111, 110] (refO 2 0)⟩, ⟨2, 0, dict1 [83] (nameO [120])⟩], dict1 [82, 111, 111, 116] (refO 1 0)⟩
def clX : Dc := ⟨[⟨1, 0, cNil⟩, ⟨2, 0, dict1 [83] (nameO [120])⟩], dict1 [82, 111, 111, 116] (refO 1 0)⟩
def clY : Dc := ⟨[⟨1, 0, cNil⟩], dict1 [82, 111, 111, 116] (refO 1 0)⟩
def clS : Pob := arrO [dict1 [97] (dict1 [98] (intO 1))]
def clT : Pob := arrO [dict1 [97] cNil]
theorem lc1 : docE clD = 0 := by decide +kernel
theorem lc2 : cleanX usualKs clD = clX := by decide +kernel
theorem lc3 : cleanX [cOpen] clD = clX := by decide +kernel
theorem lc4 : cleanX [] clD = clD := by decide +kernel
theorem lc5 : docE clX = 0 := by decide +kernel
theorem lc6 : chk clX.trailer 1 = 0 := by decide +kernel
theorem lc7 : chk clD.trailer 1 = 0 := by decide +kernel
theorem lc8 : reachS clX.items clX.trailer = [1] := by decide +kernel
theorem lc9 : reachS clD.items clD.trailer = [1, 2] := by decide +kernel
theorem lc10 : docE Dc.zero = 10 := by decide +kernel
theorem ld1 : fromP clX clX.trailer = [1] := by rw [fromP, if_pos ⟨lc5, lc6⟩, lc8]; exact sortI_id (by decide) (.refl _)
theorem ld2 : fromP clD clD.trailer = [1, 2] := by rw [fromP, if_pos ⟨lc1, lc7⟩, lc9]; exact sortI_id (by decide) (.refl _)
theorem ld3 : cleanD usualKs clD = clY := by
 rw [cleanD, if_neg (by rw [lc1]; decide), cleanC, cleanR, lc2, ld1]
 rfl
theorem ld4 : cleanD [cOpen] clD = clY := by
 rw [cleanD, if_neg (by rw [lc1]; decide), cleanC, cleanR, lc3, ld1]
 rfl
theorem ld5 : cleanD [] clD = clD := by
 rw [cleanD, if_neg (by rw [lc1]; decide), cleanC, cleanR, lc4, ld2]
 rfl
theorem ld6 : cleanD [] Dc.zero = Dc.zero := by rw [cleanD, if_pos (by rw [lc10]; decide)]
theorem ld7 : leftP [cOpen] clD = [2] := by
 rw [leftP, if_neg (by rw [lc1]; decide)]
 have e : leftI [cOpen] clD = fun i => !(lookI clY.items i.num).isSome := by
  funext i
  rw [leftI, ld4]
 rw [e]
 decide +kernel
theorem ld8 : (if chk clS 1 = 0 then stripO [[98]] clS else clS) = clT := by decide +kernel
theorem le1 : clD.bulk ≤ 16777000 := by decide +kernel
theorem le2 : Dc.zero.bulk ≤ 16777000 := by decide +kernel
theorem le3 : clS.bulk ≤ 16777000 := by decide +kernel
theorem ce1 (gl : List (Nat × AV)) : FnP Tryz.prog gl 14 [.agg clD.cells, .sl (strsAV usualKs)] fun r => r = .ret (.tup [.agg clY.cells, .int .i64 0]) := by
 have h := c_clean_Doc gl clD usualKs le1 (by decide)
 rw [ld3, lc1] at h
 exact h
theorem ce2 (gl : List (Nat × AV)) : FnP Tryz.prog gl 14 [.agg clD.cells, .sl (strsAV [])] fun r => r = .ret (.tup [.agg clD.cells, .int .i64 0]) := by
 have h := c_clean_Doc gl clD [] le1 (by decide)
 rw [ld5, lc1] at h
 exact h
theorem ce3 (gl : List (Nat × AV)) : FnP Tryz.prog gl 14 [.agg Dc.zero.cells, .sl (strsAV [])] fun r => r = .ret (.tup [.agg Dc.zero.cells, .int .i64 10]) := by
 have h := c_clean_Doc gl Dc.zero [] le2 (by decide)
 rw [ld6, lc10] at h
 exact h
theorem ce4 (gl : List (Nat × AV)) : FnP Tryz.prog gl 18 [.agg clD.cells, .sl (strsAV [cOpen])] fun r => r = .ret (.sl (intsAV [2])) := by
 have h := c_clean_Left gl clD [cOpen] le1 (by decide)
 rw [ld7] at h
 exact h
theorem ce5 (gl : List (Nat × AV)) : FnP Tryz.prog gl 11 [.agg clS.cells, .sl (strsAV [[98]])] fun r => r = .ret (.agg clT.cells) := by
 have h := c_clean_Strip gl [[98]] clS le3 (by decide)
 rw [ld8] at h
 exact h
theorem c_law31_lives (gl : List (Nat × AV))  : FnP Tryz.prog (gl) 9 [] fun r => r = .ret (.bool true) := by
 refine FnP.intro Tryz.func9 rfl rfl (by simp [Tryz.ntmps9]) ?_
 simp only [argEnv, Tryz.ntmps9, Tryz.results9]
 have hyl : clY.items.length = 1 := rfl
 refine AW.rS ?_
 refine AW.trim [] ?_
 refine AW.rSC ?_
 refine awOps.cons (awGuard.c1 (c_foliantref05_Ref _ 2 0) ?_)
 refine awOps.rn ?_
 refine awOps.cons (awGuard.c1 (c_foliantlaw31_dict _ [79, 112, 101, 110, 65, 99, 116, 105, 111, 110] (refO 2 0)) ?_)
 refine awOps.rn ?_
 refine awOps.cons (awGuard.c1 (c_foliantref05_Key _ [120]) ?_)
 refine awOps.rn ?_
 refine awOps.cons (awGuard.c1 (c_foliantlaw31_dict _ [83] (nameO [120])) ?_)
 refine awOps.rn ?_
 refine awOps.cons (awGuard.c1 (c_foliantref05_Ref _ 1 0) ?_)
 refine awOps.rn ?_
 refine awOps.cons (awGuard.c1 (c_foliantlaw31_dict _ [82, 111, 111, 116] (refO 1 0)) ?_)
 refine awOps.rn ?_
 refine AW.trim [1] ?_
 refine AW.fz [0] ?_
 refine wk ?_
 refine AW.tG (σf := ?sf2) (.fork 0 (.fork 1 (.fork 2 (.take 3 0 (.take 4 0 (.take 5 0 (.fork 6 (.fork 7 (.take 8 0 .done) .stop) .stop)))) (.fork 6 (.fork 2 (.take 3 0 (.take 4 0 (.take 5 0 (.fork 7 (.take 8 0 .done) .stop)))) .stop) .stop)) (.fork 6 (.fork 1 (.fork 2 (.take 3 0 (.take 4 0 (.take 5 0 (.fork 7 (.take 8 0 .done) .stop)))) .stop) .stop) .stop)) (.fork 1 (.fork 0 (.fork 2 (.take 3 0 (.take 4 0 (.take 5 0 (.fork 6 (.fork 7 (.take 8 0 .done) .stop) .stop)))) (.fork 6 (.fork 2 (.take 3 0 (.take 4 0 (.take 5 0 (.fork 7 (.take 8 0 .done) .stop)))) .stop) .stop)) (.fork 6 (.fork 0 (.fork 2 (.take 3 0 (.take 4 0 (.take 5 0 (.fork 7 (.take 8 0 .done) .stop)))) .stop) .stop) .stop)) (.fork 6 (.fork 0 (.fork 1 (.fork 2 (.take 3 0 (.take 4 0 (.take 5 0 (.fork 7 (.take 8 0 .done) .stop)))) .stop) .stop) (.fork 1 (.fork 0 (.fork 2 (.take 3 0 (.take 4 0 (.take 5 0 (.fork 7 (.take 8 0 .done) .stop)))) .stop) .stop) .stop)) .stop))) ?tree2 ?rest2
 case tree2 =>
  refine awTree.fA ?_ ?_
  ·refine awTree.fC (c_clean_Usual _) ?_ ?_
   ·refine awTree.fC (ce1 _) ?_ ?_
    ·refine awTree.tk ?_
     refine awTree.tk ?_
     refine awTree.tk ?_
     refine awTree.fA ?_ ?_
     ·refine awTree.fA ?_ ?_
      ·refine awTree.tk ?_
       exact awTree.dn
      ·exact trivial
     ·exact trivial
    ·refine awTree.fA ?_ ?_
     ·refine awTree.fC (ce1 _) ?_ ?_
      ·refine awTree.tk ?_
       refine awTree.tk ?_
       refine awTree.tk ?_
       refine awTree.fA ?_ ?_
       ·refine awTree.tk ?_
        exact awTree.dn
       ·exact trivial
      ·exact trivial
     ·exact trivial
   ·refine awTree.fA ?_ ?_
    ·refine awTree.fC (c_clean_Usual _) ?_ ?_
     ·refine awTree.fC (ce1 _) ?_ ?_
      ·refine awTree.tk ?_
       refine awTree.tk ?_
       refine awTree.tk ?_
       refine awTree.fA ?_ ?_
       ·refine awTree.tk ?_
        exact awTree.dn
       ·exact trivial
      ·exact trivial
     ·exact trivial
    ·exact trivial
  ·refine awTree.fC (c_clean_Usual _) ?_ ?_
   ·refine awTree.fA ?_ ?_
    ·refine awTree.fC (ce1 _) ?_ ?_
     ·refine awTree.tk ?_
      refine awTree.tk ?_
      refine awTree.tk ?_
      refine awTree.fA ?_ ?_
      ·refine awTree.fA ?_ ?_
       ·refine awTree.tk ?_
        exact awTree.dn
       ·exact trivial
      ·exact trivial
     ·refine awTree.fA ?_ ?_
      ·refine awTree.fC (ce1 _) ?_ ?_
       ·refine awTree.tk ?_
        refine awTree.tk ?_
        refine awTree.tk ?_
        refine awTree.fA ?_ ?_
        ·refine awTree.tk ?_
         exact awTree.dn
        ·exact trivial
       ·exact trivial
      ·exact trivial
    ·refine awTree.fA ?_ ?_
     ·refine awTree.fA ?_ ?_
      ·refine awTree.fC (ce1 _) ?_ ?_
       ·refine awTree.tk ?_
        refine awTree.tk ?_
        refine awTree.tk ?_
        refine awTree.fA ?_ ?_
        ·refine awTree.tk ?_
         exact awTree.dn
        ·exact trivial
       ·exact trivial
      ·exact trivial
     ·exact trivial
   ·refine awTree.fA ?_ ?_
    ·refine awTree.fA ?_ ?_
     ·refine awTree.fC (c_clean_Usual _) ?_ ?_
      ·refine awTree.fC (ce1 _) ?_ ?_
       ·refine awTree.tk ?_
        refine awTree.tk ?_
        refine awTree.tk ?_
        refine awTree.fA ?_ ?_
        ·refine awTree.tk ?_
         exact awTree.dn
        ·exact trivial
       ·exact trivial
      ·exact trivial
     ·refine awTree.fC (c_clean_Usual _) ?_ ?_
      ·refine awTree.fA ?_ ?_
       ·refine awTree.fC (ce1 _) ?_ ?_
        ·refine awTree.tk ?_
         refine awTree.tk ?_
         refine awTree.tk ?_
         refine awTree.fA ?_ ?_
         ·refine awTree.tk ?_
          exact awTree.dn
         ·exact trivial
        ·exact trivial
       ·exact trivial
      ·exact trivial
    ·exact trivial
 case rest2 =>
 skip
 skip
 skip
 skip
 skip
 refine AW.trim [1, 2, 3] ?_
 refine AW.rSC ?_
 refine awOps.cons (awGuard.c1 (ce2 _) ?_)
 refine awOps.rn ?_
 refine AW.trim [1, 2, 3, 4, 5] ?_
 refine AW.rSC ?_
 refine awOps.cons (awGuard.c1 (ce3 _) ?_)
 refine awOps.rn ?_
 refine AW.trim [1, 2, 3, 4, 5, 7] ?_
 refine AW.rSC ?_
 refine awOps.cons (awGuard.c1 (c_foliantref05_Int _ 1) ?_)
 refine awOps.rn ?_
 refine awOps.cons (awGuard.c1 (c_foliantlaw31_dict _ [98] (intO 1)) ?_)
 refine awOps.rn ?_
 refine awOps.cons (awGuard.c1 (c_foliantlaw31_dict _ [97] (dict1 [98] (intO 1))) ?_)
 refine awOps.rn ?_
 refine awOps.cons (awGuard.c1 (c_foliantref05_Array _ [dict1 [97] (dict1 [98] (intO 1))]) ?_)
 refine awOps.rn ?_
 refine awOps.cons (awGuard.c1 (ce5 _) ?_)
 refine awOps.rn ?_
 refine AW.trim [1, 2, 3, 4, 5, 7, 8] ?_
 refine wk ?_
 refine AW.fS [0, 1, 2, 3, 4, 5, 6, 7, 8, 9, 10, 11, 12, 13, 14, 15, 16, 17, 18, 19, 20, 21, 22, 23, 24, 25, 26, 27, 28, 29, 30, 31, 32, 33, 34, 35, 36, 37, 38, 39, 40, 41, 42, 43, 44, 45, 46, 47, 48, 49, 50, 51, 52, 53, 54, 55, 56, 57, 58, 59] [] ?_
 refine awFun.rn ?_
 refine awFun.cG [72, 73, 74] (fun hg => c_foliantref19_Same _ clD clD (by decide +kernel)) ?_
 refine awFun.rn ?_
 refine awFun.bsG [81] ?_
 refine awFun.rn ?_
 refine awFun.cG [81, 82, 83] (fun hg => ce4 _) ?_
 refine awFun.rn ?_
 refine awFun.bsG [81] ?_
 refine awFun.rn ?_
 refine awFun.cG [81, 84, 85] (fun hg => c_foliantref05_Ints _ [2] [2] (by decide)) ?_
 refine awFun.rn ?_
 refine awFun.efG [88] ?_
 refine awFun.rn ?_
 refine awFun.cG [88, 90] (fun hg => c_foliantlaw31_dict _ [97] cNil) ?_
 refine awFun.rn ?_
 refine awFun.bsG [88, 91] ?_
 refine awFun.rn ?_
 refine awFun.cG [88, 92] (fun hg => c_foliantref05_Array _ [dict1 [97] cNil]) ?_
 refine awFun.rn ?_
 refine awFun.cG [88, 89, 93] (fun hg => c_foliantref05_Same _ clT clT (by decide +kernel)) ?_
 refine awFun.rn ?_
 refine awFun.cG [96] (fun hg => c_clean_Usual _) ?_
 refine awFun.rn ?_
 refine awFun.cG [96] (fun hg => c_foliantref31_Usual _) ?_
 refine awFun.rn ?_
 refine awFun.cG [96, 97, 98] (fun hg => c_foliantref05_Texts _ usualKs usualKs (by decide)) ?_
 refine awFun.rn ?_
 rw [Aw.awFun_nil, Aw.awPlan_nil]
 refine AW.trim [0] ?_
 refine AW.rt ?_
 all_goals first | contradiction | rfl | (simp; done) | (simp; omega)
end Go.Proofs

namespace Go.Proofs
open Go Aw
set_option linter.unusedSimpArgs false
set_option linter.unusedVariables false
set_option maxRecDepth 100000
set_option maxHeartbeats 4000000
theorem c_law_CleanNone (gl : List (Nat × AV)) (d : Dc) (ks : List (List UInt8)) (hd : d.tot ≤ 1048576) (hk : (ks.map fun k => k.length + 1).sum ≤ 1048576) : FnP Tryz.prog (gl) 6 [.agg d.cells, .sl (strsAV ks)] fun r => r = .ret (.bool true) := by
 refine FnP.intro Tryz.func6 rfl rfl (by simp [Tryz.ntmps6]) ?_
 simp only [argEnv, Tryz.ntmps6, Tryz.results6]
 have hb := Dc.bulk_tot d
 have hp := Dc.size_tot d
 have hks := ks_sizes ks
 have hb8 : d.bulk = ibulk d.items + d.trailer.bulk := rfl
 have hb9 := ibulk_len d.items
 have hcb := cleanD_bulk (u := ks) d
 have hx8 : (cleanD ks d).bulk = ibulk (cleanD ks d).items + (cleanD ks d).trailer.bulk := rfl
 have hx9 := ibulk_len (cleanD ks d).items
 have hxk := Pob.bulk_eq (cleanD ks d).trailer
 refine AW.rS ?_
 refine AW.trim [1, 2] ?_
 refine AW.seq ?_
 refine AW.rSC ?_
 refine awOps.cons (awGuard.c1 (c_foliantlaw31_light _ ks (by omega) (by omega)) ?_)
 refine awOps.rn ?_
 refine awOps.cons (awGuard.cG (fun hg => c_foliantlaw31_small _ d (by omega) (by omega)) ?_)
 refine awOps.rn ?_
 refine AW.trim [1, 2, 17] ?_
 refine AW.c2 ?_ ?_
 ·intro h8
  refine AW.rSC ?_
  refine awOps.cons (awGuard.c1 (c_law31_lives _) ?_)
  refine awOps.rn ?_
  refine AW.trim [4] ?_
  refine AW.rt ?_
  all_goals first | contradiction | rfl | (simp; done) | (simp; omega)
 ·intro h8
  refine AW.skip ?_
  refine AW.rSC ?_
  refine awOps.cons (awGuard.c1 (c_clean_Doc _ d ks (by omega) (by omega)) ?_)
  refine awOps.rn ?_
  refine AW.trim [1, 5, 6] ?_
  refine AW.seq ?_
  refine AW.rS ?_
  refine AW.trim [1, 5, 26] ?_
  refine AW.c2 ?_ ?_
  ·intro h20
   have hz : (cleanD ks d).items.length = 0 := by
    rw [cleanD, if_pos h20]
    rfl
   refine AW.rSC ?_
   refine awOps.cons (awGuard.cG (fun hg => c_law31_lives _) ?_)
   refine awOps.rn ?_
   refine AW.trim [4] ?_
   refine AW.rt ?_
   simp [hz]
  ·intro h20
   have hd0 : docE d = 0 := by simpa using h20
   have hcf := clean_facts (u := ks) hd0 (by omega)
   have he := hcf.e
   refine AW.skip ?_
   refine AW.seq ?_
   refine AW.rS ?_
   refine AW.trim [1, 5, 7] ?_
   refine AW.block ?_
   refine AW.lk (S := { i : Nat // i ≤ (cleanD ks d).items.length }) [1, 5] (fun s_ => [(7, .int .i64 s_.1)]) (fun s_ => [(0, .cells d.cells), (1, .cells (cleanD ks d).cells)]) 2 (fun s_ => (cleanD ks d).items.length - s_.1) ⟨0, Nat.zero_le _⟩ ?_ ?_
   ·refine St.le.vw [0, 1]
   rintro ⟨i, hi⟩
   try dsimp only at hi
   refine AW.seq ?_
   refine AW.rS ?_
   refine AW.trim [1, 5, 7, 38] ?_
   refine AW.c2 ?_ ?_
   ·intro h33
    have him : (cleanD ks d).items.getD i Itm.zero ∈ (cleanC ks d).items := by
     rw [getD_zero h33, ← he]
     exact List.getElem_mem _
    have hib := ibulk_get (l := (cleanD ks d).items) (i := i) h33
    refine AW.skip ?_
    refine AW.seq ?_
    refine AW.block ?_
    refine AW.rSC ?_
    refine awOps.cons (awGuard.c1 (c_foliantlaw31_keyed _ ks ((cleanD ks d).items.getD i Itm.zero).obj (by omega) (by omega)) ?_)
    refine awOps.rn ?_
    refine AW.trim [1, 5, 7, 48] ?_
    refine AW.c2 ?_ ?_
    ·intro h40
     exfalso
     rw [clean_keyed hd0 him] at h40
     cases h40
    ·intro h40
     refine AW.skip ?_
     refine AW.rL ?_
     refine ⟨⟨i + 1, by omega⟩, ?_, ?_⟩
     ·refine St.le.vw [0, 1]
     ·simp only []; omega
   ·intro h33
    refine AW.exit ?_
    refine AW.seq ?_
    refine AW.rS ?_
    refine AW.trim [1, 5, 8] ?_
    refine AW.block ?_
    refine AW.lk (S := { i : Nat // i ≤ (cleanD ks d).trailer.keys.length }) [1, 5] (fun s_ => [(8, .int .i64 s_.1)]) (fun s_ => [(0, .cells d.cells), (1, .cells (cleanD ks d).cells)]) 2 (fun s_ => (cleanD ks d).trailer.keys.length - s_.1) ⟨0, Nat.zero_le _⟩ ?_ ?_
    ·refine St.le.vw [0, 1]
    rintro ⟨q, hq⟩
    try dsimp only at hq
    refine AW.seq ?_
    refine AW.rS ?_
    refine AW.trim [1, 5, 8, 54] ?_
    refine AW.c2 ?_ ?_
    ·intro h54
     refine AW.skip ?_
     refine AW.seq ?_
     refine AW.block ?_
     refine AW.rS ?_
     refine AW.trim [1, 5, 8, 9] ?_
     refine AW.block ?_
     refine AW.lk (S := { k : Nat // k ≤ ks.length }) [1, 5, 8] (fun s_ => [(9, .int .i64 s_.1)]) (fun s_ => [(0, .cells d.cells), (1, .cells (cleanD ks d).cells)]) 2 (fun s_ => ks.length - s_.1) ⟨0, Nat.zero_le _⟩ ?_ ?_
     ·refine St.le.vw [0, 1]
     rintro ⟨k, hk2⟩
     try dsimp only at hk2
     refine AW.seq ?_
     refine AW.rS ?_
     refine AW.trim [1, 5, 8, 9, 60] ?_
     refine AW.c2 ?_ ?_
     ·intro h63
      refine AW.skip ?_
      refine AW.seq ?_
      refine AW.block ?_
      refine AW.dS [(0, 0), (1, 0), (2, 1), (3, 0), (4, 1), (5, 1), (6, 0), (7, 0), (8, 1), (9, 1), (10, 0), (11, 0), (12, 0), (13, 0), (14, 1), (15, 1), (16, 0), (17, 0)] ?_
      refine AW.trim [1, 5, 8, 9, 80] ?_
      refine AW.c2 ?_ ?_
      ·intro h68
       exfalso
       have hkm : (cleanD ks d).trailer.keys.getD q [] ∈ (cleanC ks d).trailer.keys := by
        rw [List.getD_eq_getElem?_getD, List.getElem?_eq_getElem h54, ← he]
        exact List.getElem_mem _
       have hum : ks.getD k [] ∈ ks := by
        rw [List.getD_eq_getElem?_getD, List.getElem?_eq_getElem h63]
        exact List.getElem_mem _
       exact h68.2 (clean_trail hd0 (h68.1 ▸ hkm) hum)
      ·intro h68
       refine AW.skip ?_
       refine AW.rL ?_
       refine ⟨⟨k + 1, by omega⟩, ?_, ?_⟩
       ·refine St.le.vw [0, 1]
       ·simp only []; omega
     ·intro h63
      refine AW.exit ?_
      refine AW.rL ?_
      refine ⟨⟨q + 1, by omega⟩, ?_, ?_⟩
      ·refine St.le.vw [0, 1]
      ·simp only []; omega
    ·intro h54
     refine AW.exit ?_
     refine AW.rSC ?_
     refine awOps.cons (awGuard.c1 (c_law31_lives _) ?_)
     refine awOps.rn ?_
     refine AW.trim [4] ?_
     refine AW.rt ?_
     all_goals first | contradiction | rfl | (simp; done) | (simp; omega)
end Go.Proofs
