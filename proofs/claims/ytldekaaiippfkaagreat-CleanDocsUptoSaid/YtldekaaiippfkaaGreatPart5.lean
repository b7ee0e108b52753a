/- A part of the proof: no condition of its own. -/
import Derived.Test.YtldekaaiippfkaaGreatPart4
import Derived.Shelf.Strings.Search1
namespace Go.Proofs
open Go Aw
set_option linter.unusedSimpArgs false
set_option linter.unusedVariables false
set_option maxRecDepth 100000
set_option maxHeartbeats 2000000
attribute [local go_sem] take_strsAV app1_strsAV take_intsAV drop_intsAV app_intsAV app1_intsAV take_objsAV drop_objsAV app_objsAV app1_objsAV
theorem c_foliantref29_Leads (gl : List (Nat × AV)) (d : Dc) (o : Pob) (h : d.bulk ≤ 16777216) : FnP Tryz.prog (gl) 55 [.agg d.cells, .agg o.cells] fun r => r = .ret (.tup [.agg ((leadR d.items o).getD Itm.zero).cells, .bool (leadR d.items o).isSome]) := by
 refine FnP.intro Tryz.func55 rfl rfl (by simp [Tryz.ntmps55]) ?_
 simp only [argEnv, Tryz.ntmps55, Tryz.results55]
 have hlen := ibulk_len d.items
 have hdb : d.bulk = ibulk d.items + d.trailer.bulk := rfl
 refine AW.rS ?_
 refine AW.seq ?_
 refine AW.rS ?_
 refine AW.block ?_
 refine AW.lk (S := { i : Nat // i ≤ d.items.length ∧ ∀ j, j < i → ¬ ((d.items.getD j Itm.zero).num = o.num ∧ (d.items.getD j Itm.zero).gen = o.gen) }) [3, 4, 9, 10] (fun s_ => [(11, .int .i64 s_.1)]) (fun s_ => [(0, .cells d.cells), (1, .cells o.cells), (2, .cells [.int .i64 0, .int .i64 0, .int .i64 0, .int .i64 0, .int .i64 0, .str [], .raw (.slice none 0 0), .raw (.slice none 0 0)])]) 3 (fun s_ => d.items.length - s_.1) ⟨0, Nat.zero_le _, fun j h => absurd h (by omega)⟩ ?_ ?_
 ·refine St.le.vw [0, 1, 2]
 rintro ⟨i, hi, hs⟩
 try dsimp only at hi
 try dsimp only at hs
 refine AW.rS ?_
 refine AW.seq ?_
 refine AW.c2 ?_ ?_
 ·intro h8
  refine AW.skip ?_
  refine AW.seq ?_
  refine AW.block ?_
  refine AW.rS ?_
  refine AW.rS ?_
  refine AW.c2 ?_ ?_
  ·intro h14
   have hix := leadR_hit (l := d.items) (r := o) h8 hs (by simpa using h14)
   refine AW.rS ?_
   refine AW.rt ?_
   rw [hix]
   rfl
  ·intro h14
   refine AW.skip ?_
   refine AW.rL ?_
   refine ⟨⟨i + 1, by omega, fun j hj => (Nat.lt_or_ge j i).elim (hs j) (fun h => (show j = i by omega) ▸ (fun hh => by simp at h14 hh; exact h14.elim (fun g => g hh.1) (fun g => g hh.2)))⟩, ?_, ?_⟩
   ·refine St.le.vw [0, 1, 2]
   ·simp only []; omega
 ·intro h8
  refine AW.exit ?_
  refine AW.rS ?_
  refine AW.rt ?_
  have hix := leadR_miss (l := d.items) (r := o) (fun j hj => hs j (by omega))
  rw [hix]
  rfl
theorem c_foliantref29_has (gl : List (Nat × AV)) (l : List Int) (n : Int) (hl : l.length ≤ 16777216 := by first | omega | exact u8_le _ | assumption | (simp; done) | (simp; omega)) : FnP Tryz.prog (gl) 53 [.sl (intsAV l), .int .i64 n] fun r => r = .ret (.bool (decide (n ∈ l))) := by
 refine FnP.intro Tryz.func53 rfl rfl (by simp [Tryz.ntmps53]) ?_
 simp only [argEnv, Tryz.ntmps53, Tryz.results53]
 refine AW.rS ?_
 refine AW.seq ?_
 refine AW.rS ?_
 refine AW.block ?_
 refine AW.lk (S := { i : Nat // i ≤ l.length ∧ ∀ j, j < i → l.getD j 0 ≠ n }) [1, 7, 8] (fun s_ => [(9, .int .i64 s_.1)]) (fun s_ => []) 0 (fun s_ => l.length - s_.1) ⟨0, Nat.zero_le _, fun j h => absurd h (by omega)⟩ ?_ ?_
 ·refine St.le.vw []
 rintro ⟨i, hi, hs⟩
 try dsimp only at hi
 try dsimp only at hs
 refine AW.rS ?_
 refine AW.seq ?_
 refine AW.c2 ?_ ?_
 ·intro h8
  refine AW.skip ?_
  refine AW.seq ?_
  refine AW.block ?_
  refine AW.rS ?_
  refine AW.rS ?_
  refine AW.c2 ?_ ?_
  ·intro h14
   refine AW.rS ?_
   refine AW.rt ?_
   rw [any_hit h8 h14]
  ·intro h14
   refine AW.skip ?_
   refine AW.rL ?_
   refine ⟨⟨i + 1, by omega, fun j hj => (Nat.lt_or_ge j i).elim (hs j) (fun h => (show j = i by omega) ▸ h14)⟩, ?_, ?_⟩
   ·refine St.le.vw []
   ·simp only []; omega
 ·intro h8
  refine AW.exit ?_
  refine AW.rS ?_
  refine AW.rt ?_
  rw [any_miss (fun j hj => hs j (by omega))]
end Go.Proofs

namespace Go.Proofs
open Go Aw
set_option linter.unusedSimpArgs false
set_option linter.unusedVariables false
set_option maxRecDepth 100000
set_option maxHeartbeats 2000000
attribute [local go_sem] take_strsAV app1_strsAV take_intsAV drop_intsAV app_intsAV app1_intsAV take_objsAV drop_objsAV app_objsAV app1_objsAV
theorem href_step (gl : List (Nat × AV)) (N : Nat) (hN : N ≤ 16777216) (ih : ∀ o' : Pob, o'.bulk < N → FnH Tryz.prog gl 54 [.agg o'.cells] [] 0 fun r h n => r = .ret (.row 1 0 o'.rr.length) ∧ h = [(1, .row 6 (objsAV o'.rr) true)] ∧ n = 2) (o : Pob) (ho : o.bulk ≤ N) : FnH Tryz.prog (gl) 54 [.agg o.cells] ([]) 0 (fun r h n => r = .ret (.row 1 0 o.rr.length) ∧ h = [(1, .row 6 (objsAV o.rr) true)] ∧ n = 2) := by
 refine FnH.intro Tryz.func54 rfl rfl (by simp [Tryz.ntmps54]) ?_
 simp only [argEnv, Tryz.ntmps54, Tryz.results54]
 have hb := Pob.bulk_eq o
 have hre := rr_eq o
 refine AW.rS ?_
 refine AW.seq ?_
 refine AW.rS ?_
 refine AW.c2 ?_ ?_
 ·intro h4
  have hr1 : o.rr = [o] := by rw [hre, if_pos h4]
  refine AW.rS ?_
  refine AW.vw [0, 1] [(2, .row 1 0 1)] [(1, .row 6 [o.cells] true)] ?_
  refine AW.rt ?_
  rw [hr1]
  cases o
  exact ⟨rfl, rfl⟩
 ·intro h4
  have hr1 : o.rr = rrs o.kids := by rw [hre, if_neg h4]
  refine AW.skip ?_
  refine AW.rS ?_
  refine AW.seq ?_
  refine AW.rS ?_
  refine AW.block ?_
  refine AW.pre (St.le.nilrow 3 6 (by (simp only [go_sem, seval]; try (simp (disch := omega) only [zq]; try (simp only [go_sem, seval]; try (simp (disch := omega) only [zq]; try simp only [go_sem, seval])))))) ?_
  refine wk ?_
  refine AW.lk (S := { i : Nat // i ≤ o.kids.length }) [12, 13] (fun s_ => [(3, .row 1 0 (rrs (o.kids.take s_.1)).length), (14, .int .i64 s_.1)]) (fun s_ => [(0, .cells o.cells), (1, .row 6 (objsAV (rrs (o.kids.take s_.1))) true)]) 2 (fun s_ => o.kids.length - s_.1) ⟨0, Nat.zero_le _⟩ ?_ ?_
  ·refine St.le.vw [0, 1]
  rintro ⟨i, hi⟩
  try dsimp only at hi
  refine AW.rS ?_
  refine AW.seq ?_
  refine AW.c2 ?_ ?_
  ·intro h16
   have hkb := Pob.bulk_kid (o := o) (i := i) (by omega)
   have hrl := rr_len (o.kids.getD i Pob.null)
   have htl := rrs_take_len o.kids i
   have hts := rrs_take (l := o.kids) (i := i) (by omega)
   have hf2 := congrArg List.length hts
   rw [List.length_append] at hf2
   refine AW.skip ?_
   refine AW.seq ?_
   refine AW.block ?_
   refine AW.rS ?_
   refine AW.rLC ?_
   refine awOps.cons (awGuard.cH [] (ih (o.kids.getD i Pob.null) (Nat.lt_of_lt_of_le hkb ho)) ?_)
   refine awOps.rn ?_
   refine AW.rL ?_
   refine ⟨⟨i + 1, by omega⟩, ?_, ?_⟩
   ·refine St.le.vx [0, 5] ?_
    rw [hts]
   ·simp only []; omega
  ·intro h16
   refine AW.exit ?_
   refine AW.rS ?_
   obtain rfl : i = o.kids.length := by omega
   rw [List.take_length, ← hr1]
   refine AW.vw [0, 1] [(2, .row 1 0 o.rr.length)] [(1, .row 6 (objsAV o.rr) true)] ?_
   refine AW.rt ?_
   trivial
theorem href_all (gl : List (Nat × AV)) (N : Nat) : N ≤ 16777216 → ∀ o : Pob, o.bulk ≤ N → FnH Tryz.prog gl 54 [.agg o.cells] [] 0 fun r h n => r = .ret (.row 1 0 o.rr.length) ∧ h = [(1, .row 6 (objsAV o.rr) true)] ∧ n = 2 := by
 induction N using Nat.strongRecOn with
 | ind N IH => exact fun hN o ho => href_step gl N hN (fun o' h => IH o'.bulk h (by omega) o' (Nat.le_refl _)) o ho
theorem h_foliantref29_Refs (gl : List (Nat × AV)) (o : Pob) (h : o.bulk ≤ 16777216) : FnH Tryz.prog gl 54 [.agg o.cells] [] 0 fun r h n => r = .ret (.row 1 0 o.rr.length) ∧ h = [(1, .row 6 (objsAV o.rr) true)] ∧ n = 2 := href_all gl 16777216 (Nat.le_refl _) o h
end Go.Proofs

namespace Go.Proofs
open Go Aw
set_option linter.unusedSimpArgs false
set_option linter.unusedVariables false
set_option maxRecDepth 100000
set_option maxHeartbeats 2000000
attribute [local go_sem] take_strsAV app1_strsAV take_intsAV drop_intsAV app_intsAV app1_intsAV take_objsAV drop_objsAV app_objsAV app1_objsAV
theorem userL_nil (d : Dc) (n : Int) : userL d n [] = [] := rfl
attribute [local go_sem] userL_nil
end Go.Proofs

namespace Go.Proofs
open Go Aw
set_option linter.unusedSimpArgs false
set_option linter.unusedVariables false
set_option maxRecDepth 100000
set_option maxHeartbeats 4000000
attribute [local go_sem] take_strsAV app1_strsAV take_intsAV drop_intsAV app_intsAV app1_intsAV take_objsAV drop_objsAV app_objsAV app1_objsAV
theorem tk3 (a b : List Int) (x : Int) : List.take (a.length + 1 + b.length) (List.take (a.length + 1) (a ++ [x]) ++ b) = a ++ [x] ++ b := by
 rw [List.take_of_length_le (l := a ++ [x]) (by simp)]
 exact List.take_of_length_le (by simp; omega)
theorem c_foliantref29_Rising (gl : List (Nat × AV)) (l : List Int) (hl : l.length ≤ 16777000) : FnP Tryz.prog (gl) 56 [.sl (intsAV l)] fun r => r = .ret (.sl (intsAV (l.foldl numIns []))) := by
 refine FnP.intro Tryz.func56 rfl rfl (by simp [Tryz.ntmps56]) ?_
 simp only [argEnv, Tryz.ntmps56, Tryz.results56]
 refine AW.rS ?_
 refine AW.rS ?_
 refine AW.seq ?_
 refine AW.rS ?_
 refine AW.block ?_
 refine AW.pre (St.le.nilrow 3 1 (by (simp only [go_sem, seval]; try (simp (disch := omega) only [zq]; try (simp only [go_sem, seval]; try (simp (disch := omega) only [zq]; try simp only [go_sem, seval])))))) ?_
 refine wk ?_
 refine AW.clo 3 ?_
 refine wk ?_
 refine AW.lk (S := { i : Nat // i ≤ l.length }) [7, 8] (fun s_ => [(3, .sl (intsAV ((l.take s_.1).foldl numIns []))), (9, .int .i64 s_.1)]) (fun s_ => []) 0 (fun s_ => l.length - s_.1) ⟨0, Nat.zero_le _⟩ ?_ ?_
 ·refine St.le.vw []
 rintro ⟨i, hi⟩
 try dsimp only at hi
 refine AW.rS ?_
 refine AW.seq ?_
 refine AW.c2 ?_ ?_
 ·intro h9
  have hfl := foldN_len (l.take i) []
  have hlt : (l.take i).length = i := by rw [List.length_take]; omega
  rw [List.length_nil, Nat.zero_add, hlt] at hfl
  have hfs := foldN_succ (l := l) (i := i) (by omega) []
  generalize hq : (l.take i).foldl numIns [] = q at hfl hfs ⊢
  refine AW.skip ?_
  refine AW.seq ?_
  refine AW.block ?_
  refine AW.rS ?_
  refine AW.rS ?_
  refine AW.seq ?_
  refine AW.block ?_
  refine AW.lk (S := { j : Nat // j ≤ q.length ∧ ∀ a, a < j → q.getD a 0 < l.getD i 0 }) [3, 5, 7, 8, 9] (fun s_ => [(6, .int .i64 s_.1)]) (fun s_ => []) 0 (fun s_ => q.length - s_.1) ⟨0, Nat.zero_le _, fun j h => absurd h (by omega)⟩ ?_ ?_
  ·refine St.le.vw []
  rintro ⟨j, hj, hs⟩
  try dsimp only at hj
  try dsimp only at hs
  refine AW.seq ?_
  by_cases hs19 : j < q.length
  ·skip
   refine AW.rS ?_
   refine AW.c2 ?_ ?_
   ·intro h20
    refine AW.skip ?_
    refine AW.block ?_
    refine AW.rL ?_
    refine ⟨⟨j + 1, by omega, fun a ha => (Nat.lt_or_ge a j).elim (hs a) (fun h => (show a = j by omega) ▸ (by have := h20; simp at this; simpa using this.2))⟩, ?_, ?_⟩
    ·refine St.le.vw []
    ·simp only []; omega
   ·intro h20
    refine AW.exit ?_
    have hp := nplace_eq (l := q) (n := l.getD i 0) hj hs (fun _ => by have := h20.elim (fun h => absurd hs19 h) id; omega)
    refine AW.seq ?_
    refine AW.rS ?_
    refine AW.c2 ?_ ?_
    ·intro h28
     refine AW.exit ?_
     refine AW.rL ?_
     rw [show numIns q (l.getD i 0) = q from by unfold numIns; rw [hp, if_pos h28]] at hfs
     refine ⟨⟨i + 1, by omega⟩, ?_, by simp only []; omega⟩
     rw [hfs]
     exact St.le.vw []
    ·intro h28
     refine AW.skip ?_
     have e : numIns q (l.getD i 0) = List.take ((List.take j q).length + 1 + (List.drop j q).length) (List.take ((List.take j q).length + 1) (List.take j q ++ [l.getD i 0]) ++ List.drop j q) := by rw [tk3]; unfold numIns; rw [hp, if_neg (fun h => h28.elim (fun h1 => h1 hs19) (fun h2 => h2 h.2))]
     refine AW.tL (.take 1 0 (.take 2 0 (.take 3 0 (.take 5 0 (.take 8 0 (.take 9 0 (.take 10 0 (.fork 0 (.fork 4 (.fork 6 (.fork 7 (.fork 11 (.take 12 0 .done) .stop) .stop) .stop) (.fork 6 (.fork 4 (.fork 7 (.fork 11 (.take 12 0 .done) .stop) .stop) .stop) .stop)) (.fork 6 (.fork 0 (.fork 4 (.fork 7 (.fork 11 (.take 12 0 .done) .stop) .stop) .stop) .stop) .stop))))))))) ?_
     intro σ' hσ
     simp only [List.map_cons, List.map_nil, List.mem_cons, List.not_mem_nil, or_false] at hσ
     rcases hσ with rfl | rfl | rfl
     all_goals
      simp only [St.norm, sortE, insE]
      refine AW.clo 3 ?_
      refine wk ?_
      refine AW.rL ?_
      refine ⟨⟨i + 1, by omega⟩, ?_, by simp only []; omega⟩
      rw [hfs, e]
      exact St.le.vw []
  ·skip
   refine AW.rS ?_
   refine AW.c2 ?_ ?_
   ·intro h20
    exfalso
    simp at h20
    try omega
   ·intro h20
    refine AW.exit ?_
    have hp := nplace_eq (l := q) (n := l.getD i 0) hj hs (fun h => absurd h (by omega))
    refine AW.seq ?_
    refine AW.rS ?_
    refine AW.c2 ?_ ?_
    ·intro h28
     exfalso
     simp at h28
     try omega
    ·intro h28
     refine AW.skip ?_
     have e : numIns q (l.getD i 0) = List.take ((List.take j q).length + 1 + (List.drop j q).length) (List.take ((List.take j q).length + 1) (List.take j q ++ [l.getD i 0]) ++ List.drop j q) := by rw [tk3]; unfold numIns; rw [hp, if_neg (fun h => hs19 h.1)]
     refine AW.tL (.take 1 0 (.take 2 0 (.take 3 0 (.take 5 0 (.take 8 0 (.take 9 0 (.take 10 0 (.fork 0 (.fork 4 (.fork 6 (.fork 7 (.fork 11 (.take 12 0 .done) .stop) .stop) .stop) (.fork 6 (.fork 4 (.fork 7 (.fork 11 (.take 12 0 .done) .stop) .stop) .stop) .stop)) (.fork 6 (.fork 0 (.fork 4 (.fork 7 (.fork 11 (.take 12 0 .done) .stop) .stop) .stop) .stop) .stop))))))))) ?_
     intro σ' hσ
     simp only [List.map_cons, List.map_nil, List.mem_cons, List.not_mem_nil, or_false] at hσ
     rcases hσ with rfl | rfl | rfl
     all_goals
      simp only [St.norm, sortE, insE]
      refine AW.clo 3 ?_
      refine wk ?_
      refine AW.rL ?_
      refine ⟨⟨i + 1, by omega⟩, ?_, by simp only []; omega⟩
      rw [hfs, e]
      exact St.le.vw []
 ·intro h9
  refine AW.exit ?_
  refine AW.rS ?_
  refine AW.rt ?_
  obtain rfl : i = l.length := by omega
  rw [List.take_length]
end Go.Proofs

namespace Go.Proofs
open Go Aw
set_option linter.unusedSimpArgs false
set_option linter.unusedVariables false
set_option maxRecDepth 100000
set_option maxHeartbeats 4000000
attribute [local go_sem] take_strsAV app1_strsAV take_intsAV drop_intsAV app_intsAV app1_intsAV take_objsAV drop_objsAV app_objsAV app1_objsAV List.length_append List.length_cons List.length_nil List.length_drop List.length_take Nat.sub_zero
theorem c_foliantref29_From (gl : List (Nat × AV)) (d : Dc) (o : Pob) (h : d.tot ≤ 16777000) (ho : o.tot ≤ 16777000) (hf : docE d = 0 → chk o 1 = 0 → ∀ met, leastR d.items o.rr met → met.foldl numIns [] = fromP d o) : FnP Tryz.prog (gl) 72 [.agg d.cells, .agg o.cells] fun r => r = .ret (.sl (intsAV (fromP d o))) := by
 refine FnP.intro Tryz.func72 rfl rfl (by simp [Tryz.ntmps72]) ?_
 simp only [argEnv, Tryz.ntmps72, Tryz.results72]
 have hbk := Dc.bulk_tot d
 have hob := Pob.bulk_tot o
 have hdb : d.bulk = ibulk d.items + d.trailer.bulk := rfl
 have hlen := ibulk_len d.items
 have hrl := rr_len o
 refine AW.rS ?_
 refine AW.seq ?_
 refine AW.rSC ?_
 refine awOps.cons (awGuard.c1 (c_foliantref19_Check _ d (by omega)) ?_)
 refine awOps.rn ?_
 refine awOps.cons (awGuard.cG (fun hg => c_foliantref05_Check _ o (by omega)) ?_)
 refine awOps.rn ?_
 refine AW.c2 ?_ ?_
 ·intro h8
  refine AW.rS ?_
  refine AW.rt ?_
  ·rw [fromP, if_neg (fun hh => by simp [hh.1, hh.2] at h8)]
   rfl
  all_goals first | contradiction | rfl | (simp; done) | (simp; omega)
 ·intro h8
  have hd0 : docE d = 0 := h8.1
  have hc0 : chk o 1 = 0 := h8.2
  have hinc := items_incr (docE_items hd0)
  refine AW.skip ?_
  refine AW.rS ?_
  refine AW.rSC ?_
  refine awOps.cons (awGuard.cH [] (h_foliantref29_Refs _ o (by omega)) ?_)
  refine awOps.rn ?_
  refine AW.seq ?_
  refine AW.block ?_
  refine AW.pre (St.le.nilrow 5 1 (by (simp only [go_sem, seval]; try (simp (disch := omega) only [zq]; try (simp only [go_sem, seval]; try (simp (disch := omega) only [zq]; try simp only [go_sem, seval])))))) ?_
  refine wk ?_
  refine AW.fz [4] ?_
  refine AW.lk (S := { p : (List Int × List Pob) × Nat // p.2 ≤ p.1.2.length ∧ FromJ d.items o.rr p.1.1 (p.1.2.drop p.2) }) [2] (fun s_ => [(5, .row 1 0 s_.1.1.1.length), (6, .row 2 s_.1.2 (s_.1.1.2.length - s_.1.2))]) (fun s_ => [(0, .cells d.cells), (1, .row 1 (intsAV s_.1.1.1) false), (2, .row 6 (objsAV s_.1.1.2) true)]) 3 (fun s_ => (s_.1.1.2.length - s_.1.2) + restR d.items s_.1.1.1) ⟨(([], o.rr), 0), Nat.zero_le _, by rw [List.drop_zero]; exact FromJ.top _ _ (by omega)⟩ ?_ ?_
  ·refine St.le.vw [0, 4, 3]
  rintro ⟨⟨⟨met, full⟩, off⟩, hoff, hj⟩
  try dsimp only at hoff
  try dsimp only at hj
  refine AW.seq ?_
  refine AW.rS ?_
  refine AW.c2 ?_ ?_
  ·intro h22
   have hoff' : off < full.length := by simp at h22; omega
   have hdr : full.drop off = full.getD off Pob.null :: full.drop (off + 1) := by
    rw [List.drop_eq_getElem_cons hoff']
    simp [List.getD, List.getElem?_eq_getElem hoff']
   rw [hdr] at hj
   have hml := hj.len
   have hsm := hj.small
   simp only [List.length_cons, List.length_drop] at hsm
   refine AW.skip ?_
   refine AW.block ?_
   refine AW.tG (σf := ?sf6) (.take 1 0 (.fork 0 (.fork 2 (.fork 3 (.fork 4 (.take 5 0 (.take 6 0 (.take 7 0 (.fork 8 (.fork 9 (.take 10 0 .done) .stop) .stop)))) (.fork 8 (.fork 4 (.take 5 0 (.take 6 0 (.take 7 0 (.fork 9 (.take 10 0 .done) .stop)))) .stop) .stop)) (.fork 8 (.fork 3 (.fork 4 (.take 5 0 (.take 6 0 (.take 7 0 (.fork 9 (.take 10 0 .done) .stop)))) .stop) .stop) .stop)) (.fork 8 (.fork 2 (.fork 3 (.fork 4 (.take 5 0 (.take 6 0 (.take 7 0 (.fork 9 (.take 10 0 .done) .stop)))) .stop) .stop) .stop) .stop)) (.fork 2 (.fork 0 (.fork 3 (.fork 4 (.take 5 0 (.take 6 0 (.take 7 0 (.fork 8 (.fork 9 (.take 10 0 .done) .stop) .stop)))) (.fork 8 (.fork 4 (.take 5 0 (.take 6 0 (.take 7 0 (.fork 9 (.take 10 0 .done) .stop)))) .stop) .stop)) (.fork 8 (.fork 3 (.fork 4 (.take 5 0 (.take 6 0 (.take 7 0 (.fork 9 (.take 10 0 .done) .stop)))) .stop) .stop) .stop)) (.fork 3 (.fork 0 (.fork 4 (.take 5 0 (.take 6 0 (.take 7 0 (.fork 8 (.fork 9 (.take 10 0 .done) .stop) .stop)))) (.fork 8 (.fork 4 (.take 5 0 (.take 6 0 (.take 7 0 (.fork 9 (.take 10 0 .done) .stop)))) .stop) .stop)) (.fork 8 (.fork 0 (.fork 4 (.take 5 0 (.take 6 0 (.take 7 0 (.fork 9 (.take 10 0 .done) .stop)))) .stop) .stop) .stop)) (.fork 8 (.fork 0 (.fork 3 (.fork 4 (.take 5 0 (.take 6 0 (.take 7 0 (.fork 9 (.take 10 0 .done) .stop)))) .stop) .stop) (.fork 3 (.fork 0 (.fork 4 (.take 5 0 (.take 6 0 (.take 7 0 (.fork 9 (.take 10 0 .done) .stop)))) .stop) .stop) .stop)) .stop))) (.fork 8 (.fork 0 (.fork 2 (.fork 3 (.fork 4 (.take 5 0 (.take 6 0 (.take 7 0 (.fork 9 (.take 10 0 .done) .stop)))) .stop) .stop) .stop) (.fork 2 (.fork 0 (.fork 3 (.fork 4 (.take 5 0 (.take 6 0 (.take 7 0 (.fork 9 (.take 10 0 .done) .stop)))) .stop) .stop) (.fork 3 (.fork 0 (.fork 4 (.take 5 0 (.take 6 0 (.take 7 0 (.fork 9 (.take 10 0 .done) .stop)))) .stop) .stop) .stop)) .stop)) .stop)))) ?tree6 ?rest6
   case tree6 =>
    refine awTree.tk ?_
    refine awTree.fA ?_ ?_
    ·refine awTree.fA ?_ ?_
     ·refine awTree.fA ?_ ?_
      ·refine awTree.fC (c_foliantref29_Leads _ d (full.getD off Pob.null) (by omega)) ?_ ?_
       ·refine awTree.tk ?_
        refine awTree.tk ?_
        refine awTree.tk ?_
        refine awTree.fA ?_ ?_
        ·refine awTree.fA ?_ ?_
         ·refine awTree.tk ?_
          exact awTree.dn
         ·exact trivial
        ·exact trivial
       ·refine awTree.fA ?_ ?_
        ·refine awTree.fC (c_foliantref29_Leads _ d (full.getD off Pob.null) (by omega)) ?_ ?_
         ·refine awTree.tk ?_
          refine awTree.tk ?_
          refine awTree.tk ?_
          refine awTree.fA ?_ ?_
          ·refine awTree.tk ?_
           exact awTree.dn
          ·exact trivial
         ·exact trivial
        ·exact trivial
      ·refine awTree.fA ?_ ?_
       ·refine awTree.fA ?_ ?_
        ·refine awTree.fC (c_foliantref29_Leads _ d (full.getD off Pob.null) (by omega)) ?_ ?_
         ·refine awTree.tk ?_
          refine awTree.tk ?_
          refine awTree.tk ?_
          refine awTree.fA ?_ ?_
          ·refine awTree.tk ?_
           exact awTree.dn
          ·exact trivial
         ·exact trivial
        ·exact trivial
       ·exact trivial
     ·refine awTree.fA ?_ ?_
      ·refine awTree.fA ?_ ?_
       ·refine awTree.fA ?_ ?_
        ·refine awTree.fC (c_foliantref29_Leads _ d (full.getD off Pob.null) (by omega)) ?_ ?_
         ·refine awTree.tk ?_
          refine awTree.tk ?_
          refine awTree.tk ?_
          refine awTree.fA ?_ ?_
          ·refine awTree.tk ?_
           exact awTree.dn
          ·exact trivial
         ·exact trivial
        ·exact trivial
       ·exact trivial
      ·exact trivial
    ·refine awTree.fA ?_ ?_
     ·refine awTree.fA ?_ ?_
      ·refine awTree.fA ?_ ?_
       ·refine awTree.fC (c_foliantref29_Leads _ d (full.getD off Pob.null) (by omega)) ?_ ?_
        ·refine awTree.tk ?_
         refine awTree.tk ?_
         refine awTree.tk ?_
         refine awTree.fA ?_ ?_
         ·refine awTree.fA ?_ ?_
          ·refine awTree.tk ?_
           exact awTree.dn
          ·exact trivial
         ·exact trivial
        ·refine awTree.fA ?_ ?_
         ·refine awTree.fC (c_foliantref29_Leads _ d (full.getD off Pob.null) (by omega)) ?_ ?_
          ·refine awTree.tk ?_
           refine awTree.tk ?_
           refine awTree.tk ?_
           refine awTree.fA ?_ ?_
           ·refine awTree.tk ?_
            exact awTree.dn
           ·exact trivial
          ·exact trivial
         ·exact trivial
       ·refine awTree.fA ?_ ?_
        ·refine awTree.fA ?_ ?_
         ·refine awTree.fC (c_foliantref29_Leads _ d (full.getD off Pob.null) (by omega)) ?_ ?_
          ·refine awTree.tk ?_
           refine awTree.tk ?_
           refine awTree.tk ?_
           refine awTree.fA ?_ ?_
           ·refine awTree.tk ?_
            exact awTree.dn
           ·exact trivial
          ·exact trivial
         ·exact trivial
        ·exact trivial
      ·refine awTree.fA ?_ ?_
       ·refine awTree.fA ?_ ?_
        ·refine awTree.fC (c_foliantref29_Leads _ d (full.getD off Pob.null) (by omega)) ?_ ?_
         ·refine awTree.tk ?_
          refine awTree.tk ?_
          refine awTree.tk ?_
          refine awTree.fA ?_ ?_
          ·refine awTree.fA ?_ ?_
           ·refine awTree.tk ?_
            exact awTree.dn
           ·exact trivial
          ·exact trivial
         ·refine awTree.fA ?_ ?_
          ·refine awTree.fC (c_foliantref29_Leads _ d (full.getD off Pob.null) (by omega)) ?_ ?_
           ·refine awTree.tk ?_
            refine awTree.tk ?_
            refine awTree.tk ?_
            refine awTree.fA ?_ ?_
            ·refine awTree.tk ?_
             exact awTree.dn
            ·exact trivial
           ·exact trivial
          ·exact trivial
        ·refine awTree.fA ?_ ?_
         ·refine awTree.fA ?_ ?_
          ·refine awTree.fC (c_foliantref29_Leads _ d (full.getD off Pob.null) (by omega)) ?_ ?_
           ·refine awTree.tk ?_
            refine awTree.tk ?_
            refine awTree.tk ?_
            refine awTree.fA ?_ ?_
            ·refine awTree.tk ?_
             exact awTree.dn
            ·exact trivial
           ·exact trivial
          ·exact trivial
         ·exact trivial
       ·refine awTree.fA ?_ ?_
        ·refine awTree.fA ?_ ?_
         ·refine awTree.fA ?_ ?_
          ·refine awTree.fC (c_foliantref29_Leads _ d (full.getD off Pob.null) (by omega)) ?_ ?_
           ·refine awTree.tk ?_
            refine awTree.tk ?_
            refine awTree.tk ?_
            refine awTree.fA ?_ ?_
            ·refine awTree.tk ?_
             exact awTree.dn
            ·exact trivial
           ·exact trivial
          ·exact trivial
         ·refine awTree.fA ?_ ?_
          ·refine awTree.fA ?_ ?_
           ·refine awTree.fC (c_foliantref29_Leads _ d (full.getD off Pob.null) (by omega)) ?_ ?_
            ·refine awTree.tk ?_
             refine awTree.tk ?_
             refine awTree.tk ?_
             refine awTree.fA ?_ ?_
             ·refine awTree.tk ?_
              exact awTree.dn
             ·exact trivial
            ·exact trivial
           ·exact trivial
          ·exact trivial
        ·exact trivial
     ·refine awTree.fA ?_ ?_
      ·refine awTree.fA ?_ ?_
       ·refine awTree.fA ?_ ?_
        ·refine awTree.fA ?_ ?_
         ·refine awTree.fC (c_foliantref29_Leads _ d (full.getD off Pob.null) (by omega)) ?_ ?_
          ·refine awTree.tk ?_
           refine awTree.tk ?_
           refine awTree.tk ?_
           refine awTree.fA ?_ ?_
           ·refine awTree.tk ?_
            exact awTree.dn
           ·exact trivial
          ·exact trivial
         ·exact trivial
        ·exact trivial
       ·refine awTree.fA ?_ ?_
        ·refine awTree.fA ?_ ?_
         ·refine awTree.fA ?_ ?_
          ·refine awTree.fC (c_foliantref29_Leads _ d (full.getD off Pob.null) (by omega)) ?_ ?_
           ·refine awTree.tk ?_
            refine awTree.tk ?_
            refine awTree.tk ?_
            refine awTree.fA ?_ ?_
            ·refine awTree.tk ?_
             exact awTree.dn
            ·exact trivial
           ·exact trivial
          ·exact trivial
         ·refine awTree.fA ?_ ?_
          ·refine awTree.fA ?_ ?_
           ·refine awTree.fC (c_foliantref29_Leads _ d (full.getD off Pob.null) (by omega)) ?_ ?_
            ·refine awTree.tk ?_
             refine awTree.tk ?_
             refine awTree.tk ?_
             refine awTree.fA ?_ ?_
             ·refine awTree.tk ?_
              exact awTree.dn
             ·exact trivial
            ·exact trivial
           ·exact trivial
          ·exact trivial
        ·exact trivial
      ·exact trivial
   skip
   skip
   skip
   refine AW.rS ?_
   refine AW.rSC ?_
   refine awOps.cons (awGuard.cG (fun hg => c_foliantref29_has _ met ((leadR d.items (full.getD off Pob.null)).getD Itm.zero).num (by omega)) ?_)
   refine awOps.rn ?_
   refine AW.c2 ?_ ?_
   ·intro h33
    obtain ⟨hs1, hs2⟩ := h33
    have hi : leadR d.items (full.getD off Pob.null) = some ((leadR d.items (full.getD off Pob.null)).getD Itm.zero) := by
     obtain ⟨i, hi⟩ := Option.isSome_iff_exists.1 hs1
     rw [hi]
     rfl
    have hadd := restR_add (leadR_mem hi).1 hs2
    have hjj := hj.add hinc hi hs2
    have hib := items_bulk (d := d) (k := d.bulk) (Nat.le_refl _) _ (leadR_mem hi).1
    have hirl := rr_len ((leadR d.items (full.getD off Pob.null)).getD Itm.zero).obj
    have htk : List.take (full.length - off - 1) (full.drop (off + 1)) = full.drop (off + 1) := List.take_of_length_le (by simp; omega)
    have hl2 : (List.take (full.length - off - 1) (full.drop (off + 1)) ++ ((leadR d.items (full.getD off Pob.null)).getD Itm.zero).obj.rr).length = full.length - off - 1 + ((leadR d.items (full.getD off Pob.null)).getD Itm.zero).obj.rr.length := by rw [htk]; simp; omega
    refine AW.rS ?_
    refine AW.rLC ?_
    refine awOps.cons (awGuard.cH [] (h_foliantref29_Refs _ ((leadR d.items (full.getD off Pob.null)).getD Itm.zero).obj (by omega)) ?_)
    refine awOps.rn ?_
    refine ⟨⟨((met ++ [((leadR d.items (full.getD off Pob.null)).getD Itm.zero).num], List.take (full.length - off - 1) (full.drop (off + 1)) ++ ((leadR d.items (full.getD off Pob.null)).getD Itm.zero).obj.rr), 0), Nat.zero_le _, by rw [List.drop_zero, htk]; exact hjj⟩, ?_, ?_⟩
    ·refine St.le.vw [0, 5, 8]
    ·simp only []; omega
   ·intro h33
    refine AW.skip ?_
    refine ⟨⟨((met, full), off + 1), hoff', hj.skip (fun i hi => by rw [hi] at h33; simpa using h33)⟩, ?_, ?_⟩
    ·refine St.le.vw [0, 1, 2]
    ·simp only []; omega
  ·intro h22
   have hoe : off = full.length := by simp at h22; omega
   rw [hoe, List.drop_length] at hj
   have hml := hj.len
   refine AW.exit ?_
   refine AW.rSC ?_
   refine awOps.cons (awGuard.c1 (c_foliantref29_Rising _ met (by omega)) ?_)
   refine awOps.rn ?_
   refine AW.rt ?_
   rw [hf hd0 hc0 met hj.end]
end Go.Proofs

namespace Go.Proofs
open Go Aw
set_option linter.unusedSimpArgs false
set_option linter.unusedVariables false
set_option maxRecDepth 100000
set_option maxHeartbeats 4000000
attribute [local go_sem] take_strsAV app1_strsAV take_intsAV drop_intsAV app_intsAV app1_intsAV take_objsAV drop_objsAV app_objsAV app1_objsAV
theorem c_foliantref29_Reach (gl : List (Nat × AV)) (d : Dc) (h : d.tot ≤ 16777000) (hf : docE d = 0 → chk d.trailer 1 = 0 → ∀ met, leastR d.items d.trailer.rr met → met.foldl numIns [] = fromP d d.trailer) : FnP Tryz.prog (gl) 48 [.agg d.cells] fun r => r = .ret (.sl (intsAV (fromP d d.trailer))) := by
 refine FnP.intro Tryz.func48 rfl rfl (by simp [Tryz.ntmps48]) ?_
 simp only [argEnv, Tryz.ntmps48, Tryz.results48]
 refine AW.rS ?_
 refine AW.rSC ?_
 refine awOps.cons (awGuard.c1 (c_foliantref29_From _ d d.trailer h (Nat.le_trans (Nat.le_add_left _ _) h) hf) ?_)
 refine awOps.rn ?_
 refine AW.rt ?_
 all_goals first | contradiction | rfl | (simp; done) | (simp; omega)
theorem lostI_nil (m : List Int) : lostI m [] = [] := rfl
attribute [local go_sem] lostI_nil
end Go.Proofs

namespace Go.Proofs
open Go Aw
set_option linter.unusedSimpArgs false
set_option linter.unusedVariables false
set_option maxRecDepth 100000
set_option maxHeartbeats 4000000
attribute [local go_sem] take_strsAV app1_strsAV take_intsAV drop_intsAV app_intsAV app1_intsAV take_objsAV drop_objsAV app_objsAV app1_objsAV
theorem dangI_nil (d : Dc) : dangI d [] = [] := rfl
attribute [local go_sem] dangI_nil List.length_append
end Go.Proofs

namespace Go.Proofs
open Go Aw
set_option linter.unusedSimpArgs false
set_option linter.unusedVariables false
set_option maxRecDepth 100000
set_option maxHeartbeats 2000000
attribute [local go_sem] take_strsAV app1_strsAV take_intsAV drop_intsAV app_intsAV app1_intsAV take_objsAV drop_objsAV app_objsAV app1_objsAV
def usualKs : List (List UInt8) := [[65, 65], [74, 83], [74, 97, 118, 97, 83, 99, 114, 105, 112, 116], [76, 97, 117, 110, 99, 104], [77, 101, 116, 97, 100, 97, 116, 97], [79, 112, 101, 110, 65, 99, 116, 105, 111, 110], [80, 105, 101, 99, 101, 73, 110, 102, 111]]
theorem c_clean_Usual (gl : List (Nat × AV))  : FnP Tryz.prog (gl) 28 [] fun r => r = .ret (.sl (strsAV usualKs)) := by
 refine FnP.intro Tryz.func28 rfl rfl (by simp [Tryz.ntmps28]) ?_
 simp only [argEnv, Tryz.ntmps28, Tryz.results28]
 refine AW.rS ?_
 refine AW.rS ?_
 refine AW.rt ?_
 all_goals first | contradiction | rfl | (simp; done) | (simp; omega)
theorem c_foliantref31_Usual (gl : List (Nat × AV))  : FnP Tryz.prog (gl) 32 [] fun r => r = .ret (.sl (strsAV usualKs)) := by
 refine FnP.intro Tryz.func32 rfl rfl (by simp [Tryz.ntmps32]) ?_
 simp only [argEnv, Tryz.ntmps32, Tryz.results32]
 refine AW.rS ?_
 refine AW.rS ?_
 refine AW.rt ?_
 all_goals first | contradiction | rfl | (simp; done) | (simp; omega)
theorem c_foliantref31_has (gl : List (Nat × AV)) (l : List (List UInt8)) (s : List UInt8) (hl : l.length ≤ 16777216 := by first | omega | exact u8_le _ | assumption | (simp; done) | (simp; omega)) : FnP Tryz.prog (gl) 46 [.sl (strsAV l), .str s] fun r => r = .ret (.bool (decide (s ∈ l))) := by
 refine FnP.intro Tryz.func46 rfl rfl (by simp [Tryz.ntmps46]) ?_
 simp only [argEnv, Tryz.ntmps46, Tryz.results46]
 refine AW.rS ?_
 refine AW.seq ?_
 refine AW.rS ?_
 refine AW.block ?_
 refine AW.lk (S := { i : Nat // i ≤ l.length ∧ ∀ j, j < i → l.getD j [] ≠ s }) [0, 1] (fun s_ => [(5, .int .i64 s_.1)]) (fun s_ => []) 0 (fun s_ => l.length - s_.1) ⟨0, Nat.zero_le _, fun j h => absurd h (by omega)⟩ ?_ ?_
 ·refine St.le.vw []
 rintro ⟨i, hi, hs⟩
 try dsimp only at hi
 try dsimp only at hs
 refine AW.seq ?_
 refine AW.rS ?_
 refine AW.c2 ?_ ?_
 ·intro h8
  refine AW.skip ?_
  refine AW.seq ?_
  refine AW.block ?_
  refine AW.rS ?_
  refine AW.c2 ?_ ?_
  ·intro h13
   refine AW.rS ?_
   refine AW.rt ?_
   have hm : s ∈ l := by
    rw [← h13, List.getD_eq_getElem?_getD, List.getElem?_eq_getElem h8]
    exact List.getElem_mem _
   rw [decide_eq_true hm]
  ·intro h13
   refine AW.skip ?_
   refine AW.rL ?_
   refine ⟨⟨i + 1, by omega, fun j hj => (Nat.lt_or_ge j i).elim (hs j) (fun h => (show j = i by omega) ▸ h13)⟩, ?_, ?_⟩
   ·refine St.le.vw []
   ·simp only []; omega
 ·intro h8
  refine AW.exit ?_
  refine AW.rS ?_
  refine AW.rt ?_
  have hm : ¬ s ∈ l := by
   intro hm
   obtain ⟨j, hj, rfl⟩ := List.getElem_of_mem hm
   exact hs j (by omega) (by simp [List.getD, hj])
  rw [decide_eq_false hm]
theorem rstrip_step (gl : List (Nat × AV)) (ks : List (List UInt8)) (hks : ks.length ≤ 16777216) (n : Nat) (hN : n ≤ 16777000) (ih : ∀ (o' : Pob) (d : Int), o'.bulk ≤ n → chk o' d = 0 → FnP Tryz.prog gl 39 [.agg o'.cells, .sl (strsAV ks)] fun r => r = .ret (.agg (stripO ks o').cells)) (o : Pob) (d : Int) (ho : o.bulk ≤ n + 1) (hc : chk o d = 0) : FnP Tryz.prog (gl) 39 [.agg o.cells, .sl (strsAV ks)] fun r => r = .ret (.agg (stripO ks o).cells) := by
 refine FnP.intro Tryz.func39 rfl rfl (by simp [Tryz.ntmps39]) ?_
 simp only [argEnv, Tryz.ntmps39, Tryz.results39]
 have hb := Pob.bulk_eq o
 have hkv := kvLen_chk hc
 have hkk := fun x hx => (chk_iff.1 hc).2 x hx
 refine AW.rS ?_
 refine AW.rS ?_
 refine AW.rS ?_
 refine AW.rS ?_
 refine AW.seq ?_
 refine AW.rS ?_
 refine AW.block ?_
 refine AW.pre (St.le.nilcell 2 4 1 (by (simp only [go_sem, seval]; try (simp (disch := omega) only [zq]; try (simp only [go_sem, seval]; try (simp (disch := omega) only [zq]; try simp only [go_sem, seval])))); exact rfl) (by exact rfl)) ?_
 refine wk ?_
 refine AW.pre (St.le.nilcell 2 5 6 (by (simp only [go_sem, seval]; try (simp (disch := omega) only [zq]; try (simp only [go_sem, seval]; try (simp (disch := omega) only [zq]; try simp only [go_sem, seval])))); exact rfl) (by exact rfl)) ?_
 refine wk ?_
 refine AW.lk (S := { i : Nat // i ≤ o.kids.length }) [1, 2, 4, 5] (fun s_ => [(6, .int .i64 s_.1)]) (fun s_ => [(0, .cells o.cells), (1, .cells [.int .i64 0, .int .i64 0, .int .i64 0, .str [], .raw (.slice none 0 0), .raw (.slice none 0 0)]), (2, .cells [.int .i64 o.kind, .int .i64 o.num, .int .i64 o.gen, .str o.str, .row 3 0 (spK ks o s_.1).length, .row 4 0 (spL ks o s_.1).length]), (3, .row 1 (strsAV (spK ks o s_.1)) true), (4, .row 6 (objsAV (spL ks o s_.1)) true)]) 5 (fun s_ => o.kids.length - s_.1) ⟨0, Nat.zero_le _⟩ ?_ ?_
 ·refine St.le.vx [0, 1, 2, 3, 4] ?_; rw [(sp_zero o).1, (sp_zero o).2] <;> exact ⟨rfl, rfl, rfl⟩
 rintro ⟨i, hi⟩
 try dsimp only at hi
 refine AW.seq ?_
 refine AW.rS ?_
 refine AW.c2 ?_ ?_
 ·intro h11
  have hkb := Pob.bulk_kid (o := o) (i := i) (by omega)
  have hsl := sp_len (u := ks) o i
  have hkc : chk (o.kids.getD i Pob.null) (d + 1) = 0 := hkk _ (by rw [List.getD_eq_getElem?_getD, List.getElem?_eq_getElem h11]; exact List.getElem_mem _)
  refine AW.skip ?_
  refine AW.seq ?_
  refine AW.block ?_
  refine AW.seq ?_
  refine AW.rS ?_
  refine AW.c2 ?_ ?_
  ·intro h17
   have hkn : o.keys ≠ [] := fun e => by rw [e] at h17; simp at h17
   have hkl : o.keys.length = o.kids.length := hkv.resolve_left hkn
   refine AW.seq ?_
   refine AW.rSC ?_
   refine awOps.cons (awGuard.c1 (c_foliantref31_has _ ks (o.keys.getD i []) hks) ?_)
   refine awOps.rn ?_
   refine AW.c2 ?_ ?_
   ·intro h22
    have hsk := sp_skip h11 hkv hkn h22
    refine AW.exit ?_
    refine AW.rL ?_
    refine ⟨⟨i + 1, by omega⟩, ?_, ?_⟩
    ·refine St.le.vx [0, 1, 2, 3, 4] ?_
     rw [hsk.1, hsk.2] <;> exact ⟨rfl, rfl, rfl⟩
    ·simp only []; omega
   ·intro h22
    have hsk := sp_keep h11 hkv hkn h22
    refine AW.skip ?_
    refine AW.fL [0, 1, 2, 3, 4, 5, 6, 7] [(8, 2), (9, 2), (10, 2)] ?_
    refine awFun.rn ?_
    refine awFun.bs [35] ?_
    refine awFun.rn ?_
    rw [Aw.awFun_nil]
    refine awPlan.rn ?_
    refine AW.fL [0, 1, 2, 3, 4, 5, 6, 7, 8, 9] [(10, 2), (11, 2), (12, 2)] ?_
    refine awFun.rn ?_
    refine awFun.c1 [45, 46] (ih (o.kids.getD i Pob.null) (d + 1) (by omega) hkc) ?_
    refine awFun.rn ?_
    refine awFun.bs [47] ?_
    refine awFun.rn ?_
    rw [Aw.awFun_nil]
    refine awPlan.rn ?_
    refine AW.rL ?_
    refine ⟨⟨i + 1, by omega⟩, ?_, ?_⟩
    ·refine St.le.vx [0, 1, 2, 5, 6] ?_
     rw [hsk.1, hsk.2]; exact ⟨by rw [List.length_append, List.length_append]; rfl, rfl, rfl⟩
    ·simp only []; omega
  ·intro h17
   have hkn : o.keys = [] := hkv.resolve_right (by omega)
   have hsk := sp_plain (u := ks) h11 hkn
   refine AW.skip ?_
   refine AW.fL [0, 1, 2, 3, 4, 5, 6, 7, 8, 9] [(10, 2), (11, 2), (12, 2)] ?_
   refine awFun.rn ?_
   refine awFun.c1 [45, 46] (ih (o.kids.getD i Pob.null) (d + 1) (by omega) hkc) ?_
   refine awFun.rn ?_
   refine awFun.bs [47] ?_
   refine awFun.rn ?_
   rw [Aw.awFun_nil]
   refine awPlan.rn ?_
   refine AW.rL ?_
   refine ⟨⟨i + 1, by omega⟩, ?_, ?_⟩
   ·refine St.le.vx [0, 1, 2, 3, 5] ?_
    rw [hsk.1, hsk.2]; exact ⟨by rw [List.length_append]; rfl, rfl, rfl⟩
   ·simp only []; omega
 ·intro h11
  refine AW.exit ?_
  obtain rfl : i = o.kids.length := by omega
  refine AW.rS ?_
  refine AW.rt ?_
  rw [sp_end o] <;> rfl
theorem rstrip_all (gl : List (Nat × AV)) (ks : List (List UInt8)) (hks : ks.length ≤ 16777216) : ∀ (n : Nat), n ≤ 16777000 → ∀ (o : Pob) (d : Int), o.bulk ≤ n → chk o d = 0 → FnP Tryz.prog gl 39 [.agg o.cells, .sl (strsAV ks)] fun r => r = .ret (.agg (stripO ks o).cells)
 | 0, _, o, d, ho, _ => by have := Pob.bulk_pos o; omega
 | n + 1, hn, o, d, ho, hc => rstrip_step gl ks hks n (by omega) (fun o' d' h1 h2 => rstrip_all gl ks hks n (by omega) o' d' h1 h2) o d ho hc
theorem c_foliantref31_strip (gl : List (Nat × AV)) (ks : List (List UInt8)) (o : Pob) (d : Int) (hks : ks.length ≤ 16777216) (ho : o.bulk ≤ 16777000) (hc : chk o d = 0) : FnP Tryz.prog gl 39 [.agg o.cells, .sl (strsAV ks)] fun r => r = .ret (.agg (stripO ks o).cells) := rstrip_all gl ks hks 16777000 (Nat.le_refl _) o d ho hc
end Go.Proofs

namespace Aw
open Go
variable {u : List (List UInt8)}
theorem cut1_tot (t : Pob) (k : List UInt8) : (cut1 u t k).tot ≤ t.tot := by
 unfold cut1
 split
 ·exact dropO_tot t k
 ·exact Nat.le_refl _
theorem cleanT_tot (t : Pob) : (cleanT u t).tot ≤ t.tot := Nat.le_trans (cut1_tot _ _) (cut1_tot _ _)
theorem stripI_tot (l : List Itm) : itots (l.map (stripI u)) ≤ itots l := by
 unfold itots
 induction l with
 | nil => simp
 | cons i l ih =>
  have := strip_tot (u := u) i.obj
  simp only [List.map_cons, List.sum_cons, Itm.tot, stripI] at ih ⊢
  omega
theorem cleanX_tot (d : Dc) : (cleanX u d).tot ≤ d.tot := by
 have h1 := cleanT_tot (u := u) d.trailer
 have h2 := stripI_tot (u := u) d.items
 show itots (d.items.map (stripI u)) + (cleanT u d.trailer).tot ≤ itots d.items + d.trailer.tot
 omega
/-- the items kept up to 'i', and this one if it is among the first 'k' numbers -/
def outL (X : List Itm) (R : List Int) (i k : Nat) : List Itm := ((X.take i).filter fun x => decide (x.num ∈ R)) ++ if (X.getD i Itm.zero).num ∈ R.take k then [X.getD i Itm.zero] else []
def outF (X : List Itm) (R : List Int) (i : Nat) : List Itm := (X.take i).filter fun x => decide (x.num ∈ R)
theorem outL_zero (X : List Itm) (R : List Int) (i : Nat) : outL X R i 0 = outF X R i := by simp [outL, outF]
theorem outL_end {X : List Itm} {R : List Int} {i : Nat} (h : i < X.length) : outL X R i R.length = outF X R (i + 1) := by
 unfold outL outF
 rw [List.take_length, List.take_succ_eq_append_getElem h, List.filter_append, getD_zero h]
 congr 1
 rw [List.filter_cons]
 by_cases hm : X[i].num ∈ R <;> simp [hm]
theorem outL_hit {X : List Itm} {R : List Int} {i k : Nat} (hR : R.Pairwise (· < ·)) (h : k < R.length) (e : R.getD k 0 = (X.getD i Itm.zero).num) : outL X R i (k + 1) = outL X R i k ++ [X.getD i Itm.zero] := by
 have hk : R.getD k 0 = R[k] := by simp [List.getD, h]
 rw [hk] at e
 have h1 : (X.getD i Itm.zero).num ∈ R.take (k + 1) := by
  rw [List.take_succ_eq_append_getElem h, ← e]
  exact List.mem_append_right _ (List.mem_singleton.2 rfl)
 have h2 : ¬ (X.getD i Itm.zero).num ∈ R.take k := by
  intro hm
  rw [← e] at hm
  obtain ⟨j, hj, e2⟩ := List.getElem_of_mem hm
  simp only [List.length_take, List.getElem_take] at hj e2
  have := List.pairwise_iff_getElem.1 hR j k (by omega) h (by omega)
  omega
 unfold outL
 rw [if_pos h1, if_neg h2, List.append_nil]
theorem outL_miss {X : List Itm} {R : List Int} {i k : Nat} (h : k < R.length) (e : ¬ R.getD k 0 = (X.getD i Itm.zero).num) : outL X R i (k + 1) = outL X R i k := by
 have hk : R.getD k 0 = R[k] := by simp [List.getD, h]
 rw [hk] at e
 unfold outL
 rw [List.take_succ_eq_append_getElem h]
 have : ((X.getD i Itm.zero).num ∈ R.take k ++ [R[k]]) ↔ (X.getD i Itm.zero).num ∈ R.take k := by
  rw [List.mem_append, List.mem_singleton]
  exact ⟨fun g => g.resolve_right (fun g => e g.symm), .inl⟩
 simp only [this]
theorem outL_len {X : List Itm} {R : List Int} {i k : Nat} (h : i < X.length) : (outL X R i k).length ≤ X.length := by
 unfold outL
 have h1 : ((X.take i).filter fun x => decide (x.num ∈ R)).length ≤ i := Nat.le_trans (List.length_filter_le _ _) (by rw [List.length_take]; omega)
 rw [List.length_append]
 split <;> simp <;> omega
theorem outF_zero (X : List Itm) (R : List Int) : outF X R 0 = [] := by simp [outF]
theorem outF_end (X : List Itm) (R : List Int) : outF X R X.length = X.filter fun x => decide (x.num ∈ R) := by rw [outF, List.take_length]
theorem cut1_pos {t : Pob} {k : List UInt8} (h : k ∈ u) : cut1 u t k = dropO t k := if_pos h
theorem cut1_neg {t : Pob} {k : List UInt8} (h : ¬ k ∈ u) : cut1 u t k = t := if_neg h
theorem cleanT_eq (t : Pob) : cleanT u t = cut1 u (cut1 u t cInfoK) cIdK := rfl
attribute [irreducible] outL outF
end Aw

namespace Go.Proofs
open Go Aw
set_option linter.unusedSimpArgs false
set_option linter.unusedVariables false
set_option maxRecDepth 100000
set_option maxHeartbeats 2000000
attribute [local go_sem] take_itemsAV app_itemsAV itemsAV_length
theorem c_foliantref31_Doc (gl : List (Nat × AV)) (d : Dc) (ks : List (List UInt8)) (h : d.tot ≤ 16777000) (hl : ks.length ≤ 16777216) : FnP Tryz.prog (gl) 15 [.agg d.cells, .sl (strsAV ks)] fun r => r = .ret (.tup [.agg (cleanD ks d).cells, .int .i64 (docE d)]) := by
 refine FnP.intro Tryz.func15 rfl rfl (by simp [Tryz.ntmps15]) ?_
 simp only [argEnv, Tryz.ntmps15, Tryz.results15]
 have hbt := Dc.bulk_tot d
 have hb8 : d.bulk = ibulk d.items + d.trailer.bulk := rfl
 have hb9 := ibulk_len d.items
 have ht8 : d.tot = itots d.items + d.trailer.tot := rfl
 have hc1 := cut1_tot (u := ks) d.trailer cInfoK
 have hc2 := cleanT_tot (u := ks) d.trailer
 have hxt := cleanX_tot (u := ks) d
 have hxb := cleanX_bulk (u := ks) d
 have hfl := fromP_len (cleanX ks d) (cleanX ks d).trailer
 have hlt := fromP_lt (cleanX ks d) (cleanX ks d).trailer
 have hxl : (d.items.map (stripI ks)).length = d.items.length := List.length_map ..
 refine AW.rS ?_
 refine AW.trim [1, 2, 4] ?_
 refine AW.seq ?_
 refine AW.rSC ?_
 refine awOps.cons (awGuard.c1 (c_foliantref19_Check _ d (by omega)) ?_)
 refine awOps.rn ?_
 refine AW.trim [1, 2, 4, 6] ?_
 refine AW.rS ?_
 refine AW.trim [1, 2, 4, 6, 17] ?_
 refine AW.c2 ?_ ?_
 ·intro h7
  refine AW.rS ?_
  refine AW.trim [4, 5] ?_
  refine AW.rt ?_
  rw [cleanD, if_pos h7] <;> rfl
 ·intro h7
  have hxs := cleanX_size (u := ks) (d := d) (by omega)
  have hfa := clean_facts (u := ks) h7 (by omega)
  refine AW.skip ?_
  refine AW.rS ?_
  refine AW.trim [1, 2, 4, 7] ?_
  refine AW.seq ?_
  refine AW.rS ?_
  refine AW.trim [1, 2, 4, 7, 8] ?_
  refine AW.block ?_
  refine AW.pre (St.le.nilcell 2 0 8 (by (simp only [go_sem, seval]; try (simp (disch := omega) only [zq]; try (simp only [go_sem, seval]; try (simp (disch := omega) only [zq]; try simp only [go_sem, seval])))); exact rfl) (by exact rfl)) ?_
  refine wk ?_
  refine AW.lk (S := { i : Nat // i ≤ d.items.length }) [1, 2, 4, 7] (fun s_ => [(8, .int .i64 s_.1)]) (fun s_ => [(0, .cells d.cells), (1, .cells [.raw (.slice none 0 0), .int .i64 0, .int .i64 0, .int .i64 0, .str [], .raw (.slice none 0 0), .raw (.slice none 0 0)]), (2, .cells [.row 3 0 ((d.items.take s_.1).map (stripI ks)).length, .int .i64 (d.trailer).kind, .int .i64 (d.trailer).num, .int .i64 (d.trailer).gen, .str (d.trailer).str, .sl (strsAV (d.trailer).keys), .sl (objsAV (d.trailer).kids)]), (3, .row 8 (itemsAV ((d.items.take s_.1).map (stripI ks))) true)]) 4 (fun s_ => d.items.length - s_.1) ⟨0, Nat.zero_le _⟩ ?_ ?_
  ·refine St.le.vw [0, 1, 2, 3]
  rintro ⟨i, hi⟩
  try dsimp only at hi
  refine AW.seq ?_
  refine AW.rS ?_
  refine AW.trim [1, 2, 4, 7, 8, 27] ?_
  refine AW.c2 ?_ ?_
  ·intro h19
   have hib := ibulk_get (l := d.items) (i := i) h19
   have hit := stripI_take (u := ks) (l := d.items) (i := i) h19
   have hic := (content_parts ((items_iff.1 (docE_items h7)).2 (d.items.getD i Itm.zero) (by rw [getD_zero h19]; exact List.getElem_mem _)).2).1
   refine AW.skip ?_
   refine AW.seq ?_
   refine AW.block ?_
   refine AW.rS ?_
   refine AW.trim [1, 2, 4, 7, 8, 9] ?_
   refine AW.rSC ?_
   refine awOps.cons (awGuard.c1 (c_foliantref31_strip _ ks (d.items.getD i Itm.zero).obj 1 hl (by omega) hic) ?_)
   refine awOps.rn ?_
   refine AW.trim [1, 2, 4, 7, 8, 9] ?_
   refine AW.rL ?_
   refine AW.rL ?_
   refine ⟨⟨i + 1, by omega⟩, ?_, ?_⟩
   ·refine St.le.vx [0, 1, 2, 6] ?_
    rw [hit]; exact ⟨by rw [List.length_append]; rfl, by rw [← app_itemsAV]; rfl⟩
   ·simp only []; omega
  ·intro h19
   obtain rfl : i = d.items.length := by omega
   rw [List.take_length]
   refine AW.exit ?_
   refine AW.join ⟨98, [(1, .sl (strsAV ks)), (4, .ptr 1 0), (7, .ptr 2 0)], [(0, .cells d.cells), (1, .cells [.raw (.slice none 0 0), .int .i64 0, .int .i64 0, .int .i64 0, .str [], .raw (.slice none 0 0), .raw (.slice none 0 0)]), (2, .cells [.row 3 0 (d.items.map (stripI ks)).length, .int .i64 (cut1 ks d.trailer cInfoK).kind, .int .i64 (cut1 ks d.trailer cInfoK).num, .int .i64 (cut1 ks d.trailer cInfoK).gen, .str (cut1 ks d.trailer cInfoK).str, .sl (strsAV (cut1 ks d.trailer cInfoK).keys), .sl (objsAV (cut1 ks d.trailer cInfoK).kids)]), (3, .row 8 (itemsAV (d.items.map (stripI ks))) true)], 4, gl, 0, []⟩ ?_ ?_
   ·skip
    refine AW.rSC ?_
    refine awOps.cons (awGuard.c1 (c_foliantref31_has _ ks cInfoK hl) ?_)
    refine awOps.rn ?_
    refine AW.trim [1, 4, 7, 47] ?_
    refine AW.c2 ?_ ?_
    ·intro h35
     refine AW.rLC ?_
     refine awOps.cons (awGuard.c1 (c_foliantref05_Drop _ d.trailer cInfoK (by omega)) ?_)
     refine awOps.rn ?_
     refine St.le.vx [0, 1, 2, 3] ?_
     rw [cut1_pos h35]
    ·intro h35
     refine AW.skip ?_
     refine St.le.vx [0, 1, 2, 3] ?_
     rw [cut1_neg h35]
   ·skip
    refine AW.join ⟨98, [(4, .ptr 1 0), (7, .ptr 2 0)], [(0, .cells d.cells), (1, .cells [.raw (.slice none 0 0), .int .i64 0, .int .i64 0, .int .i64 0, .str [], .raw (.slice none 0 0), .raw (.slice none 0 0)]), (2, .cells [.row 3 0 (d.items.map (stripI ks)).length, .int .i64 (cleanT ks d.trailer).kind, .int .i64 (cleanT ks d.trailer).num, .int .i64 (cleanT ks d.trailer).gen, .str (cleanT ks d.trailer).str, .sl (strsAV (cleanT ks d.trailer).keys), .sl (objsAV (cleanT ks d.trailer).kids)]), (3, .row 8 (itemsAV (d.items.map (stripI ks))) true)], 4, gl, 0, []⟩ ?_ ?_
    ·skip
     refine AW.rSC ?_
     refine awOps.cons (awGuard.c1 (c_foliantref31_has _ ks cIdK hl) ?_)
     refine awOps.rn ?_
     refine AW.trim [4, 7, 53] ?_
     refine AW.c2 ?_ ?_
     ·intro h46
      refine AW.rLC ?_
      refine awOps.cons (awGuard.c1 (c_foliantref05_Drop _ (cut1 ks d.trailer cInfoK) cIdK (by omega)) ?_)
      refine awOps.rn ?_
      refine St.le.vx [0, 1, 2, 3] ?_
      rw [cleanT_eq, cut1_pos h46]
     ·intro h46
      refine AW.skip ?_
      refine St.le.vx [0, 1, 2, 3] ?_
      rw [cleanT_eq, cut1_neg h46]
    ·skip
     refine AW.rSC ?_
     refine awOps.cons (awGuard.c1 (c_foliantref29_Reach _ (cleanX ks d) (by omega) (from_one (d := cleanX ks d) (o := (cleanX ks d).trailer) (by omega))) ?_)
     refine awOps.rn ?_
     refine AW.trim [4, 7, 10] ?_
     refine AW.rS ?_
     refine AW.trim [4, 7, 10, 11] ?_
     refine AW.seq ?_
     refine AW.rS ?_
     refine AW.trim [4, 7, 10, 11, 12] ?_
     refine AW.block ?_
     refine AW.pre (St.le.nilcell 4 0 8 (by (simp only [go_sem, seval]; try (simp (disch := omega) only [zq]; try (simp only [go_sem, seval]; try (simp (disch := omega) only [zq]; try simp only [go_sem, seval])))); exact rfl) (by exact rfl)) ?_
     refine wk ?_
     refine AW.lk (S := { i : Nat // i ≤ d.items.length }) [4, 7, 10, 11] (fun s_ => [(12, .int .i64 s_.1)]) (fun s_ => [(0, .cells d.cells), (1, .cells [.raw (.slice none 0 0), .int .i64 0, .int .i64 0, .int .i64 0, .str [], .raw (.slice none 0 0), .raw (.slice none 0 0)]), (2, .cells [.row 3 0 (d.items.map (stripI ks)).length, .int .i64 (cleanT ks d.trailer).kind, .int .i64 (cleanT ks d.trailer).num, .int .i64 (cleanT ks d.trailer).gen, .str (cleanT ks d.trailer).str, .sl (strsAV (cleanT ks d.trailer).keys), .sl (objsAV (cleanT ks d.trailer).kids)]), (3, .row 8 (itemsAV (d.items.map (stripI ks))) false), (4, .cells [.row 5 0 (outF (d.items.map (stripI ks)) (fromP (cleanX ks d) (cleanX ks d).trailer) s_.1).length, .int .i64 (cleanT ks d.trailer).kind, .int .i64 (cleanT ks d.trailer).num, .int .i64 (cleanT ks d.trailer).gen, .str (cleanT ks d.trailer).str, .sl (strsAV (cleanT ks d.trailer).keys), .sl (objsAV (cleanT ks d.trailer).kids)]), (5, .row 8 (itemsAV (outF (d.items.map (stripI ks)) (fromP (cleanX ks d) (cleanX ks d).trailer) s_.1)) true)]) 6 (fun s_ => d.items.length - s_.1) ⟨0, Nat.zero_le _⟩ ?_ ?_
     ·refine St.le.vx [0, 1, 2, 3, 4, 5] ?_; rw [outF_zero] <;> exact ⟨rfl, rfl⟩
     rintro ⟨i, hi⟩
     try dsimp only at hi
     refine AW.seq ?_
     refine AW.rS ?_
     refine AW.trim [4, 7, 10, 11, 12, 67] ?_
     refine AW.c2 ?_ ?_
     ·intro h63
      refine AW.skip ?_
      refine AW.seq ?_
      refine AW.block ?_
      refine AW.rS ?_
      refine AW.trim [4, 7, 10, 11, 12, 13] ?_
      refine AW.block ?_
      refine AW.lk (S := { k : Nat // k ≤ (fromP (cleanX ks d) (cleanX ks d).trailer).length }) [4, 7, 10, 11, 12] (fun s_ => [(13, .int .i64 s_.1)]) (fun s_ => [(0, .cells d.cells), (1, .cells [.raw (.slice none 0 0), .int .i64 0, .int .i64 0, .int .i64 0, .str [], .raw (.slice none 0 0), .raw (.slice none 0 0)]), (2, .cells [.row 3 0 (d.items.map (stripI ks)).length, .int .i64 (cleanT ks d.trailer).kind, .int .i64 (cleanT ks d.trailer).num, .int .i64 (cleanT ks d.trailer).gen, .str (cleanT ks d.trailer).str, .sl (strsAV (cleanT ks d.trailer).keys), .sl (objsAV (cleanT ks d.trailer).kids)]), (3, .row 8 (itemsAV (d.items.map (stripI ks))) false), (4, .cells [.row 5 0 (outL (d.items.map (stripI ks)) (fromP (cleanX ks d) (cleanX ks d).trailer) i s_.1).length, .int .i64 (cleanT ks d.trailer).kind, .int .i64 (cleanT ks d.trailer).num, .int .i64 (cleanT ks d.trailer).gen, .str (cleanT ks d.trailer).str, .sl (strsAV (cleanT ks d.trailer).keys), .sl (objsAV (cleanT ks d.trailer).kids)]), (5, .row 8 (itemsAV (outL (d.items.map (stripI ks)) (fromP (cleanX ks d) (cleanX ks d).trailer) i s_.1)) true)]) 6 (fun s_ => (fromP (cleanX ks d) (cleanX ks d).trailer).length - s_.1) ⟨0, Nat.zero_le _⟩ ?_ ?_
      ·refine St.le.vx [0, 1, 2, 3, 4, 5] ?_; rw [outL_zero] <;> exact ⟨rfl, rfl⟩
      rintro ⟨k, hk⟩
      try dsimp only at hk
      refine AW.seq ?_
      refine AW.rS ?_
      refine AW.trim [4, 7, 10, 11, 12, 13, 73] ?_
      refine AW.c2 ?_ ?_
      ·intro h72
       have hol := outL_len (X := (d.items.map (stripI ks))) (R := (fromP (cleanX ks d) (cleanX ks d).trailer)) (i := i) (k := k) (by omega)
       refine AW.skip ?_
       refine AW.seq ?_
       refine AW.block ?_
       refine AW.fS [0, 1, 2, 3, 4, 5, 6, 7, 8, 9, 10] [] ?_
       refine awFun.rn ?_
       rw [Aw.awFun_nil, Aw.awPlan_nil]
       refine AW.trim [4, 7, 10, 11, 12, 13, 86] ?_
       refine AW.c2 ?_ ?_
       ·intro h79
        have hh := outL_hit (X := (d.items.map (stripI ks))) (i := i) hlt h72 h79
        refine AW.fL [0, 1, 2, 3, 4, 5, 6, 7] [(8, 2), (9, 2), (10, 2)] ?_
        refine awFun.rn ?_
        refine awFun.bs [93] ?_
        refine awFun.rn ?_
        rw [Aw.awFun_nil]
        refine awPlan.rn ?_
        refine AW.rL ?_
        refine ⟨⟨k + 1, by omega⟩, ?_, ?_⟩
        ·refine St.le.vx [0, 1, 2, 3, 4, 6] ?_
         rw [hh]; exact ⟨by rw [List.length_append]; rfl, by rw [← app_itemsAV]; rfl⟩
        ·simp only []; omega
       ·intro h79
        have hh := outL_miss (X := (d.items.map (stripI ks))) (i := i) h72 h79
        refine AW.skip ?_
        refine AW.rL ?_
        refine ⟨⟨k + 1, by omega⟩, ?_, ?_⟩
        ·refine St.le.vx [0, 1, 2, 3, 4, 5] ?_
         rw [hh] <;> exact ⟨rfl, rfl⟩
        ·simp only []; omega
      ·intro h72
       refine AW.exit ?_
       obtain rfl : k = (fromP (cleanX ks d) (cleanX ks d).trailer).length := by omega
       rw [outL_end (by omega)]
       refine AW.rL ?_
       refine ⟨⟨i + 1, by omega⟩, ?_, ?_⟩
       ·refine St.le.vw [0, 1, 2, 3, 4, 5]
       ·simp only []; omega
     ·intro h63
      refine AW.exit ?_
      obtain rfl : i = d.items.length := by omega
      have he := outF_end (d.items.map (stripI ks)) (fromP (cleanX ks d) (cleanX ks d).trailer)
      rw [hxl] at he
      refine AW.rS ?_
      refine AW.trim [4, 5] ?_
      refine AW.rt ?_
      rw [he, hfa.e, h7] <;> rfl
theorem c_foliantref31_Left (gl : List (Nat × AV)) (d : Dc) (ks : List (List UInt8)) (h : d.tot ≤ 16777000) (hl : ks.length ≤ 16777216) : FnP Tryz.prog (gl) 19 [.agg d.cells, .sl (strsAV ks)] fun r => r = .ret (.sl (intsAV (leftP ks d))) := by
 refine FnP.intro Tryz.func19 rfl rfl (by simp [Tryz.ntmps19]) ?_
 simp only [argEnv, Tryz.ntmps19, Tryz.results19]
 have hbt := Dc.bulk_tot d
 have hb8 : d.bulk = ibulk d.items + d.trailer.bulk := rfl
 have hb9 := ibulk_len d.items
 have hcb := cleanD_bulk (u := ks) d
 refine AW.rS ?_
 refine AW.rSC ?_
 refine awOps.cons (awGuard.c1 (c_foliantref31_Doc _ d ks (by omega) hl) ?_)
 refine awOps.rn ?_
 refine AW.rS ?_
 refine AW.seq ?_
 refine AW.rS ?_
 refine AW.block ?_
 refine AW.pre (St.le.nilrow 7 1 (by (simp only [go_sem, seval]; try (simp (disch := omega) only [zq]; try (simp only [go_sem, seval]; try (simp (disch := omega) only [zq]; try simp only [go_sem, seval])))))) ?_
 refine wk ?_
 refine AW.lk (S := { i : Nat // i ≤ d.items.length ∧ (docE d ≠ 0 → i = 0) }) [2, 5, 6] (fun s_ => [(7, .row 2 0 (((d.items.take s_.1).filter (leftI ks d)).map (·.num)).length), (8, .int .i64 s_.1)]) (fun s_ => [(0, .cells d.cells), (1, .cells (cleanD ks d).cells), (2, .row 1 (intsAV (((d.items.take s_.1).filter (leftI ks d)).map (·.num))) true)]) 3 (fun s_ => d.items.length - s_.1) ⟨0, Nat.zero_le _, fun _ => rfl⟩ ?_ ?_
 ·refine St.le.vw [0, 1, 2]
 rintro ⟨i, hi, hz⟩
 try dsimp only at hi
 try dsimp only at hz
 refine AW.seq ?_
 refine AW.rS ?_
 refine AW.c2 ?_ ?_
 ·intro h12
  have hlt := left_take (p := leftI ks d) (l := d.items) h12.1
  have hll := left_len d.items (leftI ks d) i
  refine AW.skip ?_
  refine AW.seq ?_
  refine AW.block ?_
  refine AW.tG (σf := ?sf6) (.take 1 0 (.take 3 0 (.fork 0 (.fork 2 (.take 4 0 (.take 5 0 (.fork 6 (.fork 7 (.take 8 0 (.take 9 0 (.take 10 0 (.fork 11 (.fork 12 (.take 13 0 .done) .stop) .stop)))) (.fork 11 (.fork 7 (.take 8 0 (.take 9 0 (.take 10 0 (.fork 12 (.take 13 0 .done) .stop)))) .stop) .stop)) (.fork 11 (.fork 6 (.fork 7 (.take 8 0 (.take 9 0 (.take 10 0 (.fork 12 (.take 13 0 .done) .stop)))) .stop) .stop) .stop)))) (.fork 11 (.fork 2 (.take 4 0 (.take 5 0 (.fork 6 (.fork 7 (.take 8 0 (.take 9 0 (.take 10 0 (.fork 12 (.take 13 0 .done) .stop)))) .stop) .stop))) .stop) .stop)) (.fork 2 (.take 4 0 (.take 5 0 (.fork 0 (.fork 6 (.fork 7 (.take 8 0 (.take 9 0 (.take 10 0 (.fork 11 (.fork 12 (.take 13 0 .done) .stop) .stop)))) (.fork 11 (.fork 7 (.take 8 0 (.take 9 0 (.take 10 0 (.fork 12 (.take 13 0 .done) .stop)))) .stop) .stop)) (.fork 11 (.fork 6 (.fork 7 (.take 8 0 (.take 9 0 (.take 10 0 (.fork 12 (.take 13 0 .done) .stop)))) .stop) .stop) .stop)) (.fork 6 (.fork 0 (.fork 7 (.take 8 0 (.take 9 0 (.take 10 0 (.fork 11 (.fork 12 (.take 13 0 .done) .stop) .stop)))) (.fork 11 (.fork 7 (.take 8 0 (.take 9 0 (.take 10 0 (.fork 12 (.take 13 0 .done) .stop)))) .stop) .stop)) (.fork 11 (.fork 0 (.fork 7 (.take 8 0 (.take 9 0 (.take 10 0 (.fork 12 (.take 13 0 .done) .stop)))) .stop) .stop) .stop)) (.fork 11 (.fork 0 (.fork 6 (.fork 7 (.take 8 0 (.take 9 0 (.take 10 0 (.fork 12 (.take 13 0 .done) .stop)))) .stop) .stop) (.fork 6 (.fork 0 (.fork 7 (.take 8 0 (.take 9 0 (.take 10 0 (.fork 12 (.take 13 0 .done) .stop)))) .stop) .stop) .stop)) .stop))))) (.fork 11 (.fork 0 (.fork 2 (.take 4 0 (.take 5 0 (.fork 6 (.fork 7 (.take 8 0 (.take 9 0 (.take 10 0 (.fork 12 (.take 13 0 .done) .stop)))) .stop) .stop))) .stop) (.fork 2 (.take 4 0 (.take 5 0 (.fork 0 (.fork 6 (.fork 7 (.take 8 0 (.take 9 0 (.take 10 0 (.fork 12 (.take 13 0 .done) .stop)))) .stop) .stop) (.fork 6 (.fork 0 (.fork 7 (.take 8 0 (.take 9 0 (.take 10 0 (.fork 12 (.take 13 0 .done) .stop)))) .stop) .stop) .stop)))) .stop)) .stop))))) ?tree6 ?rest6
  case tree6 =>
   refine awTree.tk ?_
   refine awTree.tk ?_
   refine awTree.fA ?_ ?_
   ·refine awTree.fA ?_ ?_
    ·refine awTree.tk ?_
     refine awTree.tk ?_
     refine awTree.fA ?_ ?_
     ·refine awTree.fC (c_foliantref19_Get _ (cleanD ks d) (d.items.getD i Itm.zero).num (by omega)) ?_ ?_
      ·refine awTree.tk ?_
       refine awTree.tk ?_
       refine awTree.tk ?_
       refine awTree.fA ?_ ?_
       ·refine awTree.fA ?_ ?_
        ·refine awTree.tk ?_
         exact awTree.dn
        ·exact trivial
       ·exact trivial
      ·refine awTree.fA ?_ ?_
       ·refine awTree.fC (c_foliantref19_Get _ (cleanD ks d) (d.items.getD i Itm.zero).num (by omega)) ?_ ?_
        ·refine awTree.tk ?_
         refine awTree.tk ?_
         refine awTree.tk ?_
         refine awTree.fA ?_ ?_
         ·refine awTree.tk ?_
          exact awTree.dn
         ·exact trivial
        ·exact trivial
       ·exact trivial
     ·refine awTree.fA ?_ ?_
      ·refine awTree.fA ?_ ?_
       ·refine awTree.fC (c_foliantref19_Get _ (cleanD ks d) (d.items.getD i Itm.zero).num (by omega)) ?_ ?_
        ·refine awTree.tk ?_
         refine awTree.tk ?_
         refine awTree.tk ?_
         refine awTree.fA ?_ ?_
         ·refine awTree.tk ?_
          exact awTree.dn
         ·exact trivial
        ·exact trivial
       ·exact trivial
      ·exact trivial
    ·refine awTree.fA ?_ ?_
     ·refine awTree.fA ?_ ?_
      ·refine awTree.tk ?_
       refine awTree.tk ?_
       refine awTree.fA ?_ ?_
       ·refine awTree.fC (c_foliantref19_Get _ (cleanD ks d) (d.items.getD i Itm.zero).num (by omega)) ?_ ?_
        ·refine awTree.tk ?_
         refine awTree.tk ?_
         refine awTree.tk ?_
         refine awTree.fA ?_ ?_
         ·refine awTree.tk ?_
          exact awTree.dn
         ·exact trivial
        ·exact trivial
       ·exact trivial
      ·exact trivial
     ·exact trivial
   ·refine awTree.fA ?_ ?_
    ·refine awTree.tk ?_
     refine awTree.tk ?_
     refine awTree.fA ?_ ?_
     ·refine awTree.fA ?_ ?_
      ·refine awTree.fC (c_foliantref19_Get _ (cleanD ks d) (d.items.getD i Itm.zero).num (by omega)) ?_ ?_
       ·refine awTree.tk ?_
        refine awTree.tk ?_
        refine awTree.tk ?_
        refine awTree.fA ?_ ?_
        ·refine awTree.fA ?_ ?_
         ·refine awTree.tk ?_
          exact awTree.dn
         ·exact trivial
        ·exact trivial
       ·refine awTree.fA ?_ ?_
        ·refine awTree.fC (c_foliantref19_Get _ (cleanD ks d) (d.items.getD i Itm.zero).num (by omega)) ?_ ?_
         ·refine awTree.tk ?_
          refine awTree.tk ?_
          refine awTree.tk ?_
          refine awTree.fA ?_ ?_
          ·refine awTree.tk ?_
           exact awTree.dn
          ·exact trivial
         ·exact trivial
        ·exact trivial
      ·refine awTree.fA ?_ ?_
       ·refine awTree.fA ?_ ?_
        ·refine awTree.fC (c_foliantref19_Get _ (cleanD ks d) (d.items.getD i Itm.zero).num (by omega)) ?_ ?_
         ·refine awTree.tk ?_
          refine awTree.tk ?_
          refine awTree.tk ?_
          refine awTree.fA ?_ ?_
          ·refine awTree.tk ?_
           exact awTree.dn
          ·exact trivial
         ·exact trivial
        ·exact trivial
       ·exact trivial
     ·refine awTree.fA ?_ ?_
      ·refine awTree.fA ?_ ?_
       ·refine awTree.fC (c_foliantref19_Get _ (cleanD ks d) (d.items.getD i Itm.zero).num (by omega)) ?_ ?_
        ·refine awTree.tk ?_
         refine awTree.tk ?_
         refine awTree.tk ?_
         refine awTree.fA ?_ ?_
         ·refine awTree.fA ?_ ?_
          ·refine awTree.tk ?_
           exact awTree.dn
          ·exact trivial
         ·exact trivial
        ·refine awTree.fA ?_ ?_
         ·refine awTree.fC (c_foliantref19_Get _ (cleanD ks d) (d.items.getD i Itm.zero).num (by omega)) ?_ ?_
          ·refine awTree.tk ?_
           refine awTree.tk ?_
           refine awTree.tk ?_
           refine awTree.fA ?_ ?_
           ·refine awTree.tk ?_
            exact awTree.dn
           ·exact trivial
          ·exact trivial
         ·exact trivial
       ·refine awTree.fA ?_ ?_
        ·refine awTree.fA ?_ ?_
         ·refine awTree.fC (c_foliantref19_Get _ (cleanD ks d) (d.items.getD i Itm.zero).num (by omega)) ?_ ?_
          ·refine awTree.tk ?_
           refine awTree.tk ?_
           refine awTree.tk ?_
           refine awTree.fA ?_ ?_
           ·refine awTree.tk ?_
            exact awTree.dn
           ·exact trivial
          ·exact trivial
         ·exact trivial
        ·exact trivial
      ·refine awTree.fA ?_ ?_
       ·refine awTree.fA ?_ ?_
        ·refine awTree.fA ?_ ?_
         ·refine awTree.fC (c_foliantref19_Get _ (cleanD ks d) (d.items.getD i Itm.zero).num (by omega)) ?_ ?_
          ·refine awTree.tk ?_
           refine awTree.tk ?_
           refine awTree.tk ?_
           refine awTree.fA ?_ ?_
           ·refine awTree.tk ?_
            exact awTree.dn
           ·exact trivial
          ·exact trivial
         ·exact trivial
        ·refine awTree.fA ?_ ?_
         ·refine awTree.fA ?_ ?_
          ·refine awTree.fC (c_foliantref19_Get _ (cleanD ks d) (d.items.getD i Itm.zero).num (by omega)) ?_ ?_
           ·refine awTree.tk ?_
            refine awTree.tk ?_
            refine awTree.tk ?_
            refine awTree.fA ?_ ?_
            ·refine awTree.tk ?_
             exact awTree.dn
            ·exact trivial
           ·exact trivial
          ·exact trivial
         ·exact trivial
       ·exact trivial
    ·refine awTree.fA ?_ ?_
     ·refine awTree.fA ?_ ?_
      ·refine awTree.fA ?_ ?_
       ·refine awTree.tk ?_
        refine awTree.tk ?_
        refine awTree.fA ?_ ?_
        ·refine awTree.fC (c_foliantref19_Get _ (cleanD ks d) (d.items.getD i Itm.zero).num (by omega)) ?_ ?_
         ·refine awTree.tk ?_
          refine awTree.tk ?_
          refine awTree.tk ?_
          refine awTree.fA ?_ ?_
          ·refine awTree.tk ?_
           exact awTree.dn
          ·exact trivial
         ·exact trivial
        ·exact trivial
       ·exact trivial
      ·refine awTree.fA ?_ ?_
       ·refine awTree.tk ?_
        refine awTree.tk ?_
        refine awTree.fA ?_ ?_
        ·refine awTree.fA ?_ ?_
         ·refine awTree.fC (c_foliantref19_Get _ (cleanD ks d) (d.items.getD i Itm.zero).num (by omega)) ?_ ?_
          ·refine awTree.tk ?_
           refine awTree.tk ?_
           refine awTree.tk ?_
           refine awTree.fA ?_ ?_
           ·refine awTree.tk ?_
            exact awTree.dn
           ·exact trivial
          ·exact trivial
         ·exact trivial
        ·refine awTree.fA ?_ ?_
         ·refine awTree.fA ?_ ?_
          ·refine awTree.fC (c_foliantref19_Get _ (cleanD ks d) (d.items.getD i Itm.zero).num (by omega)) ?_ ?_
           ·refine awTree.tk ?_
            refine awTree.tk ?_
            refine awTree.tk ?_
            refine awTree.fA ?_ ?_
            ·refine awTree.tk ?_
             exact awTree.dn
            ·exact trivial
           ·exact trivial
          ·exact trivial
         ·exact trivial
       ·exact trivial
     ·exact trivial
  case rest6 =>
  skip
  skip
  skip
  refine AW.rS ?_
  refine AW.c2 ?_ ?_
  ·intro h21
   rw [if_pos (by unfold leftI; rw [h21]; rfl)] at hlt
   have hf2 := congrArg List.length hlt
   rw [List.length_append, List.length_cons, List.length_nil] at hf2
   refine AW.rL ?_
   refine AW.rL ?_
   refine ⟨⟨i + 1, by omega, fun g => absurd h12.2 g⟩, ?_, ?_⟩
   ·refine St.le.vx [0, 1, 5] ?_
    rw [hlt, take_intsAV, List.take_length, app1_intsAV]
   ·simp only []; omega
  ·intro h21
   rw [if_neg (by unfold leftI; rw [h21]; decide), List.append_nil] at hlt
   have hf2 := congrArg List.length hlt
   refine AW.skip ?_
   refine AW.rL ?_
   refine ⟨⟨i + 1, by omega, fun g => absurd h12.2 g⟩, ?_, ?_⟩
   ·refine St.le.vx [0, 1, 2] ?_; rw [hlt]
   ·simp only []; omega
 ·intro h12
  refine AW.exit ?_
  refine AW.rS ?_
  refine AW.rt ?_
  rcases Classical.em (docE d = 0) with h0 | h0
  ·obtain rfl : i = d.items.length := by omega
   rw [List.take_length, leftP, if_neg (by simpa using h0), take_intsAV, List.take_length]
  ·obtain rfl := hz h0
   rw [leftP, if_pos h0]
   rfl
end Go.Proofs

namespace Aw
open Go
def ksum (l : List (List UInt8)) : Int := (l.map fun k => (k.length : Int)).sum
theorem ksum_take {l : List (List UInt8)} {i : Nat} (h : i < l.length) : ksum (l.take (i + 1)) = ksum (l.take i) + (l.getD i []).length := by
 unfold ksum
 rw [List.take_succ_eq_append_getElem h, List.map_append, List.sum_append]
 simp [List.getD, h]
theorem ksum_nn (l : List (List UInt8)) : 0 ≤ ksum l := by
 unfold ksum
 induction l with
 | nil => simp
 | cons k l ih => simp only [List.map_cons, List.sum_cons]; omega
theorem ksum_get {l : List (List UInt8)} {i : Nat} (h : i < l.length) : ksum (l.take i) + (l.getD i []).length ≤ ksum l := by
 rw [← ksum_take h]
 have e : ksum l = ksum (l.take (i + 1)) + ksum (l.drop (i + 1)) := by
  unfold ksum
  rw [← List.sum_append, ← List.map_append, List.take_append_drop]
 have := ksum_nn (l.drop (i + 1))
 omega
def lightB (l : List (List UInt8)) : Bool := bif decide ((l.length : Int) ≤ 20) then decide (ksum l ≤ 1000) else false
def smallB (d : Dc) : Bool := bif decide ((d.items.length : Int) ≤ 60) then decide ((d.size : Int) ≤ 3000) else false
def dict1 (k : List UInt8) (v : Pob) : Pob := .mk 7 0 0 [] [k] [v]
variable {u : List (List UInt8)}
theorem ks_sizes (l : List (List UInt8)) : l.length ≤ (l.map fun k => k.length + 1).sum ∧ ksum l ≤ ((l.map fun k => k.length + 1).sum : Nat) := by
 unfold ksum
 induction l with
 | nil => simp
 | cons k l ih => simp only [List.map_cons, List.sum_cons, List.length_cons]; omega
theorem leftP_len (u : List (List UInt8)) (d : Dc) : (leftP u d).length ≤ d.items.length := by
 unfold leftP
 split
 ·simp
 ·rw [List.length_map]; exact List.length_filter_le _ _
end Aw

namespace Go.Proofs
open Go Aw
set_option linter.unusedSimpArgs false
set_option linter.unusedVariables false
set_option maxRecDepth 100000
set_option maxHeartbeats 2000000
theorem takeInt_succ {a b : List Int} {i : Nat} (h : i < a.length) (hl : a.length = b.length) (he : a.take i = b.take i) (hg : a.getD i 0 = b.getD i 0) : a.take (i + 1) = b.take (i + 1) := by
 rw [List.take_add_one, List.take_add_one, he]
 rw [List.getD, List.getD] at hg
 rw [List.getElem?_eq_getElem h, List.getElem?_eq_getElem (show i < b.length by omega)] at hg ⊢
 simp only [Option.getD_some] at hg
 rw [hg]
theorem c_foliantref05_Ints (gl : List (Nat × AV)) (a b : List Int) (ha : a.length ≤ 16777216 := by first | omega | exact u8_le _ | assumption | (simp; done) | (simp; omega)) : FnP Tryz.prog (gl) 17 [.sl (intsAV a), .sl (intsAV b)] fun r => r = .ret (.bool (decide (a = b))) := by
 refine FnP.intro Tryz.func17 rfl rfl (by simp [Tryz.ntmps17]) ?_
 simp only [argEnv, Tryz.ntmps17, Tryz.results17]
 refine AW.rS ?_
 refine AW.seq ?_
 refine AW.rS ?_
 refine AW.c2 ?_ ?_
 ·intro h4
  refine AW.rS ?_
  refine AW.rt ?_
  rw [decide_eq_false (fun e => h4 (by rw [e]))]
 ·intro h4
  refine AW.skip ?_
  refine AW.seq ?_
  refine AW.rS ?_
  refine AW.block ?_
  refine AW.lk (S := { i : Nat // i ≤ a.length ∧ a.take i = b.take i }) [0, 1, 12] (fun s_ => [(13, .int .i64 s_.1)]) (fun s_ => []) 0 (fun s_ => a.length - s_.1) ⟨0, Nat.zero_le _, rfl⟩ ?_ ?_
  ·refine St.le.vw []
  rintro ⟨i, hi, hs⟩
  try dsimp only at hi
  try dsimp only at hs
  refine AW.rS ?_
  refine AW.seq ?_
  refine AW.c2 ?_ ?_
  ·intro h15
   refine AW.skip ?_
   refine AW.seq ?_
   refine AW.block ?_
   refine AW.rS ?_
   refine AW.dS [(0, 0), (1, 0), (2, 1), (3, 1), (4, 0), (5, 0), (6, 1), (7, 1), (8, 0)] ?_
   refine AW.c2 ?_ ?_
   ·intro h21
    refine AW.rS ?_
    refine AW.rt ?_
    rw [decide_eq_false (fun e => h21 (by rw [e]))]
   ·intro h21
    refine AW.skip ?_
    refine AW.rL ?_
    refine ⟨⟨i + 1, by omega, takeInt_succ h15 (by omega) hs h21⟩, ?_, ?_⟩
    ·refine St.le.vw []
    ·simp only []; omega
  ·intro h15
   refine AW.exit ?_
   refine AW.rS ?_
   refine AW.rt ?_
   rw [List.take_of_length_le (by omega), List.take_of_length_le (by omega)] at hs
   simp [hs]
end Go.Proofs

set_option linter.unusedVariables false
set_option linter.unusedSimpArgs false
namespace Aw
open Go
end Aw

namespace Go.Proofs
open Go.Shelf
open Go.RowKit Go.Lib in
open Aw
set_option linter.unusedSimpArgs false
set_option linter.unusedVariables false
set_option maxRecDepth 100000
set_option maxHeartbeats 2000000
end Go.Proofs

set_option linter.unusedVariables false
set_option linter.unusedSimpArgs false
namespace Aw
open Go
abbrev Prs := List (List UInt8 × Pob)
def pairsAV (l : Prs) : List (List AV) := l.map fun p => [.str p.1, .int .i64 p.2.kind, .int .i64 p.2.num, .int .i64 p.2.gen, .str p.2.str, .sl (strsAV p.2.keys), .sl (objsAV p.2.kids)]
theorem pairsAV_ok (l : Prs) : (∀ e ∈ pairsAV l, okRow 7 e = true) = True := by
 simp only [pairsAV, List.mem_map, eq_iff_iff, iff_true]
 rintro e ⟨b, _, rfl⟩
 rfl
theorem pairsAV_len7 (l : Prs) : (∀ e ∈ pairsAV l, e.length = 7) = True := by
 simp only [pairsAV, List.mem_map, eq_iff_iff, iff_true]
 rintro e ⟨b, _, rfl⟩
 rfl
end Aw
namespace Aw
open Go
end Aw

namespace Aw
open Go
/-! the new document -/
end Aw

namespace Go.Proofs
open Go Aw
set_option linter.unusedSimpArgs false
set_option linter.unusedVariables false
set_option maxRecDepth 100000
set_option maxHeartbeats 2000000
attribute [local go_sem] pairsAV_ok pairsAV_len7
end Go.Proofs

set_option linter.unusedVariables false
set_option linter.unusedSimpArgs false
namespace Aw
open Go
section
variable {d : Dc} {k t : List UInt8} {v : Pob}
end
end Aw

namespace Go.Proofs
open Go Aw
set_option linter.unusedSimpArgs false
set_option linter.unusedVariables false
set_option maxRecDepth 100000
set_option maxHeartbeats 2000000
theorem c_foliantref05_Int (gl : List (Nat × AV)) (n : Int) : FnP Tryz.prog (gl) 30 [.int .i64 n] fun r => r = .ret (.agg (intO n).cells) := by
 refine FnP.intro Tryz.func30 rfl rfl (by simp [Tryz.ntmps30]) ?_
 simp only [argEnv, Tryz.ntmps30, Tryz.results30]
 refine AW.rS ?_
 refine AW.rS ?_
 refine AW.rt ?_
 all_goals first | contradiction | rfl | (simp; done) | (simp; omega)
theorem c_foliantref05_Ref (gl : List (Nat × AV)) (n g : Int) : FnP Tryz.prog (gl) 26 [.int .i64 n, .int .i64 g] fun r => r = .ret (.agg (refO n g).cells) := by
 refine FnP.intro Tryz.func26 rfl rfl (by simp [Tryz.ntmps26]) ?_
 simp only [argEnv, Tryz.ntmps26, Tryz.results26]
 refine AW.rS ?_
 refine AW.rS ?_
 refine AW.rt ?_
 all_goals first | contradiction | rfl | (simp; done) | (simp; omega)
theorem c_foliantref05_Key (gl : List (Nat × AV)) (s : List UInt8) : FnP Tryz.prog (gl) 27 [.str s] fun r => r = .ret (.agg (nameO s).cells) := by
 refine FnP.intro Tryz.func27 rfl rfl (by simp [Tryz.ntmps27]) ?_
 simp only [argEnv, Tryz.ntmps27, Tryz.results27]
 refine AW.rS ?_
 refine AW.rS ?_
 refine AW.rt ?_
 all_goals first | contradiction | rfl | (simp; done) | (simp; omega)
theorem c_foliantref05_Array (gl : List (Nat × AV)) (l : List Pob) : FnP Tryz.prog (gl) 29 [.sl (objsAV l)] fun r => r = .ret (.agg (arrO l).cells) := by
 refine FnP.intro Tryz.func29 rfl rfl (by simp [Tryz.ntmps29]) ?_
 simp only [argEnv, Tryz.ntmps29, Tryz.results29]
 refine AW.rS ?_
 refine AW.rS ?_
 refine AW.rt ?_
 all_goals first | contradiction | rfl | (simp; done) | (simp; omega)
end Go.Proofs

namespace Go.Proofs
open Go Aw
set_option linter.unusedSimpArgs false
set_option linter.unusedVariables false
set_option maxRecDepth 100000
set_option maxHeartbeats 2000000
theorem c_foliantlaw31_light (gl : List (Nat × AV)) (l : List (List UInt8)) (hl : l.length ≤ 16777216) (hs : ksum l ≤ 16777216) : FnP Tryz.prog (gl) 7 [.sl (strsAV l)] fun r => r = .ret (.bool (lightB l)) := by
 refine FnP.intro Tryz.func7 rfl rfl (by simp [Tryz.ntmps7]) ?_
 simp only [argEnv, Tryz.ntmps7, Tryz.results7]
 refine AW.rS ?_
 refine AW.rS ?_
 refine AW.seq ?_
 refine AW.rS ?_
 refine AW.block ?_
 refine AW.lk (S := { i : Nat // i ≤ l.length }) [0] (fun s_ => [(3, .int .i64 (ksum (l.take s_.1))), (4, .int .i64 s_.1)]) (fun s_ => []) 0 (fun s_ => l.length - s_.1) ⟨0, Nat.zero_le _⟩ ?_ ?_
 ·refine St.le.vw []
 rintro ⟨i, hi⟩
 try dsimp only at hi
 refine AW.seq ?_
 refine AW.rS ?_
 refine AW.c2 ?_ ?_
 ·intro h9
  have hkt := ksum_take h9
  have hkg := ksum_get h9
  have hkn := ksum_nn (l.take i)
  refine AW.skip ?_
  refine AW.seq ?_
  refine AW.block ?_
  refine AW.rL ?_
  refine AW.rL ?_
  refine ⟨⟨i + 1, by omega⟩, ?_, ?_⟩
  ·refine St.le.vw []
  ·simp only []; omega
 ·intro h9
  refine AW.exit ?_
  obtain rfl : i = l.length := by omega
  rw [List.take_length]
  refine AW.rS ?_
  refine AW.rt ?_
  rfl
theorem c_foliantlaw31_small (gl : List (Nat × AV)) (d : Dc) (h : d.bulk ≤ 16777216) (hp : d.size ≤ 4611686018427387904) : FnP Tryz.prog (gl) 13 [.agg d.cells] fun r => r = .ret (.bool (smallB d)) := by
 refine FnP.intro Tryz.func13 rfl rfl (by simp [Tryz.ntmps13]) ?_
 simp only [argEnv, Tryz.ntmps13, Tryz.results13]
 refine AW.rS ?_
 refine AW.rSC ?_
 refine awOps.cons (awGuard.cG (fun hg => c_foliantref19_Size _ d h hp) ?_)
 refine awOps.rn ?_
 refine AW.rt ?_
 all_goals first | contradiction | rfl | (simp; done) | (simp; omega)
theorem c_foliantlaw31_dict (gl : List (Nat × AV)) (k : List UInt8) (v : Pob) : FnP Tryz.prog (gl) 25 [.str k, .agg v.cells] fun r => r = .ret (.agg (dict1 k v).cells) := by
 refine FnP.intro Tryz.func25 rfl rfl (by simp [Tryz.ntmps25]) ?_
 simp only [argEnv, Tryz.ntmps25, Tryz.results25]
 refine AW.rS ?_
 refine AW.rS ?_
 refine AW.rt ?_
 ·simp [dict1, Pob.kind, Pob.num, Pob.gen, Pob.str, Pob.keys, Pob.kids, objsAV, strsAV, Pob.cells_eq]
 all_goals first | contradiction | rfl | (simp; done) | (simp; omega)
end Go.Proofs

namespace Aw
open Go
theorem sortI_id {s t : List Int} (ht : t.Pairwise (· < ·)) (hp : s.Perm t) : sortI s = t := by
 have hn : s.Nodup := hp.nodup_iff.2 (ht.imp fun h => Int.ne_of_lt h)
 exact lt_ext (sortI_lt hn) ht (fun n => by rw [sortI_mem]; exact hp.mem_iff)
end Aw

namespace Go.Proofs
open Go Aw
set_option linter.unusedSimpArgs false
set_option linter.unusedVariables false
set_option maxRecDepth 100000
set_option maxHeartbeats 4000000
def cOpen : List UInt8 := [79, 112, 101, 110, 65, 99, 116, 105, 111, 110]
def cNil : Pob := .mk 7 0 0 [] [] []
def clD : Dc := ⟨[⟨1, 0, dict1 [79, 112, 101, 110, 65, 99, 116, 105, 111, 110] (refO 2 0)⟩, ⟨2, 0, dict1 [83] (nameO [120])⟩], dict1 [82, 111, 111, 116] (refO 1 0)⟩
def clX : Dc := ⟨[⟨1, 0, cNil⟩, ⟨2, 0, dict1 [83] (nameO [120])⟩], dict1 [82, 111, 111, 116] (refO 1 0)⟩
def clY : Dc := ⟨[⟨1, 0, cNil⟩], dict1 [82, 111, 111, 116] (refO 1 0)⟩
def clS : Pob := arrO [dict1 [97] (dict1 [98] (intO 1))]
def clT : Pob := arrO [dict1 [97] cNil]
theorem lc1 : docE clD = 0 := by decide +kernel
theorem lc2 : cleanX usualKs clD = clX := by decide +kernel
theorem lc3 : cleanX [cOpen] clD = clX := by decide +kernel
theorem lc4 : cleanX [] clD = clD := by decide +kernel
theorem lc5 : docE clX = 0 := by decide +kernel
theorem lc6 : chk clX.trailer 1 = 0 := by decide +kernel
theorem lc7 : chk clD.trailer 1 = 0 := by decide +kernel
theorem lc8 : reachS clX.items clX.trailer = [1] := by decide +kernel
theorem lc9 : reachS clD.items clD.trailer = [1, 2] := by decide +kernel
theorem lc10 : docE Dc.zero = 10 := by decide +kernel
theorem ld1 : fromP clX clX.trailer = [1] := by rw [fromP, if_pos ⟨lc5, lc6⟩, lc8]; exact sortI_id (by decide) (.refl _)
theorem ld2 : fromP clD clD.trailer = [1, 2] := by rw [fromP, if_pos ⟨lc1, lc7⟩, lc9]; exact sortI_id (by decide) (.refl _)
theorem ld3 : cleanD usualKs clD = clY := by
 rw [cleanD, if_neg (by rw [lc1]; decide), cleanC, cleanR, lc2, ld1]
 rfl
theorem ld4 : cleanD [cOpen] clD = clY := by
 rw [cleanD, if_neg (by rw [lc1]; decide), cleanC, cleanR, lc3, ld1]
 rfl
theorem ld5 : cleanD [] clD = clD := by
 rw [cleanD, if_neg (by rw [lc1]; decide), cleanC, cleanR, lc4, ld2]
 rfl
theorem ld6 : cleanD [] Dc.zero = Dc.zero := by rw [cleanD, if_pos (by rw [lc10]; decide)]
theorem ld7 : leftP [cOpen] clD = [2] := by
 rw [leftP, if_neg (by rw [lc1]; decide)]
 have e : leftI [cOpen] clD = fun i => !(lookI clY.items i.num).isSome := by
  funext i
  rw [leftI, ld4]
 rw [e]
 decide +kernel
theorem ld8 : (if chk clS 1 = 0 then stripO [[98]] clS else clS) = clT := by decide +kernel
theorem le1 : clD.bulk ≤ 16777000 := by decide +kernel
theorem le2 : Dc.zero.bulk ≤ 16777000 := by decide +kernel
theorem le3 : clS.bulk ≤ 16777000 := by decide +kernel
theorem ce1 (gl : List (Nat × AV)) : FnP Tryz.prog gl 14 [.agg clD.cells, .sl (strsAV usualKs)] fun r => r = .ret (.tup [.agg clY.cells, .int .i64 0]) := by
 have h := c_clean_Doc gl clD usualKs le1 (by decide)
 rw [ld3, lc1] at h
 exact h
theorem ce2 (gl : List (Nat × AV)) : FnP Tryz.prog gl 14 [.agg clD.cells, .sl (strsAV [])] fun r => r = .ret (.tup [.agg clD.cells, .int .i64 0]) := by
 have h := c_clean_Doc gl clD [] le1 (by decide)
 rw [ld5, lc1] at h
 exact h
theorem ce3 (gl : List (Nat × AV)) : FnP Tryz.prog gl 14 [.agg Dc.zero.cells, .sl (strsAV [])] fun r => r = .ret (.tup [.agg Dc.zero.cells, .int .i64 10]) := by
 have h := c_clean_Doc gl Dc.zero [] le2 (by decide)
 rw [ld6, lc10] at h
 exact h
theorem ce4 (gl : List (Nat × AV)) : FnP Tryz.prog gl 18 [.agg clD.cells, .sl (strsAV [cOpen])] fun r => r = .ret (.sl (intsAV [2])) := by
 have h := c_clean_Left gl clD [cOpen] le1 (by decide)
 rw [ld7] at h
 exact h
theorem ce5 (gl : List (Nat × AV)) : FnP Tryz.prog gl 11 [.agg clS.cells, .sl (strsAV [[98]])] fun r => r = .ret (.agg clT.cells) := by
 have h := c_clean_Strip gl [[98]] clS le3 (by decide)
 rw [ld8] at h
 exact h
theorem c_law31_lives (gl : List (Nat × AV))  : FnP Tryz.prog (gl) 9 [] fun r => r = .ret (.bool true) := by
 refine FnP.intro Tryz.func9 rfl rfl (by simp [Tryz.ntmps9]) ?_
 simp only [argEnv, Tryz.ntmps9, Tryz.results9]
 have hyl : clY.items.length = 1 := rfl
 refine AW.rS ?_
 refine AW.trim [] ?_
 refine AW.rSC ?_
 refine awOps.cons (awGuard.c1 (c_foliantref05_Ref _ 2 0) ?_)
 refine awOps.rn ?_
 refine awOps.cons (awGuard.c1 (c_foliantlaw31_dict _ [79, 112, 101, 110, 65, 99, 116, 105, 111, 110] (refO 2 0)) ?_)
 refine awOps.rn ?_
 refine awOps.cons (awGuard.c1 (c_foliantref05_Key _ [120]) ?_)
 refine awOps.rn ?_
 refine awOps.cons (awGuard.c1 (c_foliantlaw31_dict _ [83] (nameO [120])) ?_)
 refine awOps.rn ?_
 refine awOps.cons (awGuard.c1 (c_foliantref05_Ref _ 1 0) ?_)
 refine awOps.rn ?_
 refine awOps.cons (awGuard.c1 (c_foliantlaw31_dict _ [82, 111, 111, 116] (refO 1 0)) ?_)
 refine awOps.rn ?_
 refine AW.trim [1] ?_
 refine AW.fz [0] ?_
 refine wk ?_
 refine AW.tG (σf := ?sf2) (.fork 0 (.fork 1 (.fork 2 (.take 3 0 (.take 4 0 (.take 5 0 (.fork 6 (.fork 7 (.take 8 0 .done) .stop) .stop)))) (.fork 6 (.fork 2 (.take 3 0 (.take 4 0 (.take 5 0 (.fork 7 (.take 8 0 .done) .stop)))) .stop) .stop)) (.fork 6 (.fork 1 (.fork 2 (.take 3 0 (.take 4 0 (.take 5 0 (.fork 7 (.take 8 0 .done) .stop)))) .stop) .stop) .stop)) (.fork 1 (.fork 0 (.fork 2 (.take 3 0 (.take 4 0 (.take 5 0 (.fork 6 (.fork 7 (.take 8 0 .done) .stop) .stop)))) (.fork 6 (.fork 2 (.take 3 0 (.take 4 0 (.take 5 0 (.fork 7 (.take 8 0 .done) .stop)))) .stop) .stop)) (.fork 6 (.fork 0 (.fork 2 (.take 3 0 (.take 4 0 (.take 5 0 (.fork 7 (.take 8 0 .done) .stop)))) .stop) .stop) .stop)) (.fork 6 (.fork 0 (.fork 1 (.fork 2 (.take 3 0 (.take 4 0 (.take 5 0 (.fork 7 (.take 8 0 .done) .stop)))) .stop) .stop) (.fork 1 (.fork 0 (.fork 2 (.take 3 0 (.take 4 0 (.take 5 0 (.fork 7 (.take 8 0 .done) .stop)))) .stop) .stop) .stop)) .stop))) ?tree2 ?rest2
 case tree2 =>
  refine awTree.fA ?_ ?_
  ·refine awTree.fC (c_clean_Usual _) ?_ ?_
   ·refine awTree.fC (ce1 _) ?_ ?_
    ·refine awTree.tk ?_
     refine awTree.tk ?_
     refine awTree.tk ?_
     refine awTree.fA ?_ ?_
     ·refine awTree.fA ?_ ?_
      ·refine awTree.tk ?_
       exact awTree.dn
      ·exact trivial
     ·exact trivial
    ·refine awTree.fA ?_ ?_
     ·refine awTree.fC (ce1 _) ?_ ?_
      ·refine awTree.tk ?_
       refine awTree.tk ?_
       refine awTree.tk ?_
       refine awTree.fA ?_ ?_
       ·refine awTree.tk ?_
        exact awTree.dn
       ·exact trivial
      ·exact trivial
     ·exact trivial
   ·refine awTree.fA ?_ ?_
    ·refine awTree.fC (c_clean_Usual _) ?_ ?_
     ·refine awTree.fC (ce1 _) ?_ ?_
      ·refine awTree.tk ?_
       refine awTree.tk ?_
       refine awTree.tk ?_
       refine awTree.fA ?_ ?_
       ·refine awTree.tk ?_
        exact awTree.dn
       ·exact trivial
      ·exact trivial
     ·exact trivial
    ·exact trivial
  ·refine awTree.fC (c_clean_Usual _) ?_ ?_
   ·refine awTree.fA ?_ ?_
    ·refine awTree.fC (ce1 _) ?_ ?_
     ·refine awTree.tk ?_
      refine awTree.tk ?_
      refine awTree.tk ?_
      refine awTree.fA ?_ ?_
      ·refine awTree.fA ?_ ?_
       ·refine awTree.tk ?_
        exact awTree.dn
       ·exact trivial
      ·exact trivial
     ·refine awTree.fA ?_ ?_
      ·refine awTree.fC (ce1 _) ?_ ?_
       ·refine awTree.tk ?_
        refine awTree.tk ?_
        refine awTree.tk ?_
        refine awTree.fA ?_ ?_
        ·refine awTree.tk ?_
         exact awTree.dn
        ·exact trivial
       ·exact trivial
      ·exact trivial
    ·refine awTree.fA ?_ ?_
     ·refine awTree.fA ?_ ?_
      ·refine awTree.fC (ce1 _) ?_ ?_
       ·refine awTree.tk ?_
        refine awTree.tk ?_
        refine awTree.tk ?_
        refine awTree.fA ?_ ?_
        ·refine awTree.tk ?_
         exact awTree.dn
        ·exact trivial
       ·exact trivial
      ·exact trivial
     ·exact trivial
   ·refine awTree.fA ?_ ?_
    ·refine awTree.fA ?_ ?_
     ·refine awTree.fC (c_clean_Usual _) ?_ ?_
      ·refine awTree.fC (ce1 _) ?_ ?_
       ·refine awTree.tk ?_
        refine awTree.tk ?_
        refine awTree.tk ?_
        refine awTree.fA ?_ ?_
        ·refine awTree.tk ?_
         exact awTree.dn
        ·exact trivial
       ·exact trivial
      ·exact trivial
     ·refine awTree.fC (c_clean_Usual _) ?_ ?_
      ·refine awTree.fA ?_ ?_
       ·refine awTree.fC (ce1 _) ?_ ?_
        ·refine awTree.tk ?_
         refine awTree.tk ?_
         refine awTree.tk ?_
         refine awTree.fA ?_ ?_
         ·refine awTree.tk ?_
          exact awTree.dn
         ·exact trivial
        ·exact trivial
       ·exact trivial
      ·exact trivial
    ·exact trivial
 case rest2 =>
 skip
 skip
 skip
 skip
 skip
 refine AW.trim [1, 2, 3] ?_
 refine AW.rSC ?_
 refine awOps.cons (awGuard.c1 (ce2 _) ?_)
 refine awOps.rn ?_
 refine AW.trim [1, 2, 3, 4, 5] ?_
 refine AW.rSC ?_
 refine awOps.cons (awGuard.c1 (ce3 _) ?_)
 refine awOps.rn ?_
 refine AW.trim [1, 2, 3, 4, 5, 7] ?_
 refine AW.rSC ?_
 refine awOps.cons (awGuard.c1 (c_foliantref05_Int _ 1) ?_)
 refine awOps.rn ?_
 refine awOps.cons (awGuard.c1 (c_foliantlaw31_dict _ [98] (intO 1)) ?_)
 refine awOps.rn ?_
 refine awOps.cons (awGuard.c1 (c_foliantlaw31_dict _ [97] (dict1 [98] (intO 1))) ?_)
 refine awOps.rn ?_
 refine awOps.cons (awGuard.c1 (c_foliantref05_Array _ [dict1 [97] (dict1 [98] (intO 1))]) ?_)
 refine awOps.rn ?_
 refine awOps.cons (awGuard.c1 (ce5 _) ?_)
 refine awOps.rn ?_
 refine AW.trim [1, 2, 3, 4, 5, 7, 8] ?_
 refine wk ?_
 refine AW.fS [0, 1, 2, 3, 4, 5, 6, 7, 8, 9, 10, 11, 12, 13, 14, 15, 16, 17, 18, 19, 20, 21, 22, 23, 24, 25, 26, 27, 28, 29, 30, 31, 32, 33, 34, 35, 36, 37, 38, 39, 40, 41, 42, 43, 44, 45, 46, 47, 48, 49, 50, 51, 52, 53, 54, 55, 56, 57, 58, 59] [] ?_
 refine awFun.rn ?_
 refine awFun.cG [72, 73, 74] (fun hg => c_foliantref19_Same _ clD clD (by decide +kernel)) ?_
 refine awFun.rn ?_
 refine awFun.bsG [81] ?_
 refine awFun.rn ?_
 refine awFun.cG [81, 82, 83] (fun hg => ce4 _) ?_
 refine awFun.rn ?_
 refine awFun.bsG [81] ?_
 refine awFun.rn ?_
 refine awFun.cG [81, 84, 85] (fun hg => c_foliantref05_Ints _ [2] [2] (by decide)) ?_
 refine awFun.rn ?_
 refine awFun.efG [88] ?_
 refine awFun.rn ?_
 refine awFun.cG [88, 90] (fun hg => c_foliantlaw31_dict _ [97] cNil) ?_
 refine awFun.rn ?_
 refine awFun.bsG [88, 91] ?_
 refine awFun.rn ?_
 refine awFun.cG [88, 92] (fun hg => c_foliantref05_Array _ [dict1 [97] cNil]) ?_
 refine awFun.rn ?_
 refine awFun.cG [88, 89, 93] (fun hg => c_foliantref05_Same _ clT clT (by decide +kernel)) ?_
 refine awFun.rn ?_
 refine awFun.cG [96] (fun hg => c_clean_Usual _) ?_
 refine awFun.rn ?_
 refine awFun.cG [96] (fun hg => c_foliantref31_Usual _) ?_
 refine awFun.rn ?_
 refine awFun.cG [96, 97, 98] (fun hg => c_foliantref05_Texts _ usualKs usualKs (by decide)) ?_
 refine awFun.rn ?_
 rw [Aw.awFun_nil, Aw.awPlan_nil]
 refine AW.trim [0] ?_
 refine AW.rt ?_
 all_goals first | contradiction | rfl | (simp; done) | (simp; omega)
end Go.Proofs

namespace Go.Proofs
open Go Aw
set_option linter.unusedSimpArgs false
set_option linter.unusedVariables false
set_option maxRecDepth 100000
set_option maxHeartbeats 4000000
theorem c_law_CleanDocs (gl : List (Nat × AV)) (d : Dc) (ks : List (List UInt8)) (hd : d.tot ≤ 1048576) (hk : (ks.map fun k => k.length + 1).sum ≤ 1048576) : FnP Tryz.prog (gl) 4 [.agg d.cells, .sl (strsAV ks)] fun r => r = .ret (.bool true) := by
 refine FnP.intro Tryz.func4 rfl rfl (by simp [Tryz.ntmps4]) ?_
 simp only [argEnv, Tryz.ntmps4, Tryz.results4]
 have hb := Dc.bulk_tot d
 have hp := Dc.size_tot d
 have hks := ks_sizes ks
 have hcb := cleanD_bulk (u := ks) d
 have hll := leftP_len ks d
 have hb8 : d.bulk = ibulk d.items + d.trailer.bulk := rfl
 have hb9 := ibulk_len d.items
 refine AW.rS ?_
 refine AW.trim [1, 2] ?_
 refine AW.seq ?_
 refine AW.rSC ?_
 refine awOps.cons (awGuard.c1 (c_foliantlaw31_light _ ks (by omega) (by omega)) ?_)
 refine awOps.rn ?_
 refine awOps.cons (awGuard.cG (fun hg => c_foliantlaw31_small _ d (by omega) (by omega)) ?_)
 refine awOps.rn ?_
 refine AW.trim [1, 2, 16] ?_
 refine AW.c2 ?_ ?_
 ·intro h8
  refine AW.rSC ?_
  refine awOps.cons (awGuard.c1 (c_law31_lives _) ?_)
  refine awOps.rn ?_
  refine AW.trim [4] ?_
  refine AW.rt ?_
  all_goals first | contradiction | rfl | (simp; done) | (simp; omega)
 ·intro h8
  refine AW.skip ?_
  refine AW.rSC ?_
  refine awOps.cons (awGuard.c1 (c_clean_Doc _ d ks (by omega) (by omega)) ?_)
  refine awOps.rn ?_
  refine AW.trim [1, 2, 5, 6] ?_
  refine AW.rSC ?_
  refine awOps.cons (awGuard.c1 (c_foliantref31_Doc _ d ks (by omega) (by omega)) ?_)
  refine awOps.rn ?_
  refine AW.trim [1, 2, 5, 6, 7, 8] ?_
  refine AW.fS [0, 1, 2, 3, 4, 5, 6, 7, 8, 9, 10, 12, 13, 11, 14, 15, 16, 17, 18, 19, 20] [] ?_
  refine awFun.rn ?_
  refine awFun.c1 [30, 31] (c_foliantref19_Same _ (cleanD ks d) (cleanD ks d) (by omega)) ?_
  refine awFun.rn ?_
  refine awFun.cG [38, 39, 40] (fun hg => c_clean_Left _ d ks (by omega) (by omega)) ?_
  refine awFun.rn ?_
  refine awFun.cG [38, 42, 43] (fun hg => c_foliantref31_Left _ d ks (by omega) (by omega)) ?_
  refine awFun.rn ?_
  refine awFun.cG [38, 41, 44] (fun hg => c_foliantref05_Ints _ (leftP ks d) (leftP ks d) (by omega)) ?_
  refine awFun.rn ?_
  refine awFun.cG [47] (fun hg => c_law31_lives _) ?_
  refine awFun.rn ?_
  rw [Aw.awFun_nil, Aw.awPlan_nil]
  refine AW.trim [4] ?_
  refine AW.rt ?_
  all_goals first | contradiction | rfl | (simp; done) | (simp; omega)
end Go.Proofs
