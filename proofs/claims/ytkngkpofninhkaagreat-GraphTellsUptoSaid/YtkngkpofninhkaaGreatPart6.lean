/- A part of the proof of a law of the seat: no condition of its own. -/
import Derived.Test.YtkngkpofninhkaaGreatPart5
namespace Go.Proofs
open Go Aw
set_option linter.unusedSimpArgs false
set_option linter.unusedVariables false
set_option maxRecDepth 100000
set_option maxHeartbeats 2000000
attribute [local go_sem] take_intsAV drop_intsAV app_intsAV app1_intsAV take_objsAV drop_objsAV app_objsAV app1_objsAV
theorem c_foliantref29_uses (gl : List (Nat × AV)) (d : Dc) (o : Pob) (n : Int) (hd : d.bulk ≤ 16777216 := by first | omega | exact u8_le _ | assumption | (simp; done) | (simp; omega)) (ho : o.bulk ≤ 16777216 := by first | omega | exact u8_le _ | assumption | (simp; done) | (simp; omega)) : FnP Tryz.prog (gl) 32 [.agg d.cells, .agg o.cells, .int .i64 n] fun r => r = .ret (.bool (usesR d n o)) := by
  refine FnP.intro Tryz.func32 rfl rfl (by simp [Tryz.ntmps32]) ?_
  simp only [argEnv, Tryz.ntmps32, Tryz.results32]
  have hrl := rr_len o
  refine AW.rS ?_
  refine AW.seq ?_
  refine AW.rSC ?_
  refine awOps.cons (awGuard.cH [] (h_foliantref29_Refs _ o ho) ?_)
  refine awOps.rn ?_
  refine AW.block ?_
  refine AW.clo 12 ?_
  refine wk ?_
  refine AW.lk (S := { i : Nat // i ≤ o.rr.length ∧ ((o.rr.take i).any fun x => (leadR d.items x).isSome && decide (((leadR d.items x).getD Itm.zero).num = n)) = false }) [2, 3, 12, 13] (fun s_ => [(14, .int .i64 s_.1)]) (fun s_ => [(0, .cells d.cells), (1, .cells o.cells)]) 2 (fun s_ => o.rr.length - s_.1) ⟨0, Nat.zero_le _, by simp⟩ ?_ ?_
  · refine St.le.vw [0, 1]
  rintro ⟨i, hi, hs⟩
  try dsimp only at hi
  try dsimp only at hs
  refine AW.rS ?_
  refine AW.seq ?_
  refine AW.c2 ?_ ?_
  · intro h10
    refine AW.skip ?_
    refine AW.seq ?_
    refine AW.block ?_
    refine AW.rS ?_
    refine AW.rSC ?_
    refine awOps.cons (awGuard.c1 (c_foliantref29_Leads _ d (o.rr.getD i Pob.null) hd) ?_)
    refine awOps.rn ?_
    refine AW.rS ?_
    refine AW.c2 ?_ ?_
    · intro h19
      have hu : usesR d n o = true := any_at (d := Pob.null) h10 (by simpa using h19)
      refine AW.rS ?_
      refine AW.rt ?_
      rw [hu]
    · intro h19
      refine AW.skip ?_
      refine AW.rL ?_
      refine ⟨⟨i + 1, by omega, by rw [any_take (d := Pob.null) h10, hs]; simp at h19; rcases h19 with g | g <;> simp [g]⟩, ?_, ?_⟩
      · refine St.le.vw [0, 1]
      · simp only []; omega
  · intro h10
    refine AW.exit ?_
    refine AW.rS ?_
    refine AW.rt ?_
    · obtain rfl : i = o.rr.length := by omega
      rw [List.take_length] at hs
      rw [usesR, hs]
    all_goals first | contradiction | rfl | (simp; done) | (simp; omega)
theorem userL_nil (d : Dc) (n : Int) : userL d n [] = [] := rfl
attribute [local go_sem] userL_nil
theorem c_foliantref29_Users (gl : List (Nat × AV)) (d : Dc) (n : Int) (h : d.tot ≤ 16777216) : FnP Tryz.prog (gl) 17 [.agg d.cells, .int .i64 n] fun r => r = .ret (.sl (intsAV (usersR d n))) := by
  refine FnP.intro Tryz.func17 rfl rfl (by simp [Tryz.ntmps17]) ?_
  simp only [argEnv, Tryz.ntmps17, Tryz.results17]
  have hbk := Dc.bulk_tot d
  have hdb : d.bulk = ibulk d.items + d.trailer.bulk := rfl
  have hlen := ibulk_len d.items
  refine AW.rS ?_
  refine AW.seq ?_
  refine AW.rSC ?_
  refine awOps.cons (awGuard.c1 (c_foliantref19_Check _ d h) ?_)
  refine awOps.rn ?_
  refine AW.c2 ?_ ?_
  · intro h6
    refine AW.rS ?_
    refine AW.rt ?_
    · rw [usersR, if_neg (by simpa using h6)]
      first | trivial | rfl
    all_goals first | contradiction | rfl | (simp; done) | (simp; omega)
  · intro h6
    refine AW.skip ?_
    refine AW.rS ?_
    refine AW.seq ?_
    refine AW.rSC ?_
    refine awOps.cons (awGuard.c1 (c_foliantref29_uses _ d d.trailer n (by omega) (by omega)) ?_)
    refine awOps.rn ?_
    refine AW.c2 ?_ ?_
    · intro h16
      refine AW.rL ?_
      refine AW.seq ?_
      refine AW.rS ?_
      refine AW.block ?_
      refine AW.lk (S := { i : Nat // i ≤ d.items.length }) [1, 2, 20, 21] (fun s_ => [(5, .row 1 0 ([0] ++ userL d n (d.items.take s_.1)).length), (22, .int .i64 s_.1)]) (fun s_ => [(0, .cells d.cells), (1, .row 1 (intsAV ([0] ++ userL d n (d.items.take s_.1))) true)]) 2 (fun s_ => d.items.length - s_.1) ⟨0, Nat.zero_le _⟩ ?_ ?_
      · refine St.le.vw [0, 2]
      rintro ⟨i, hi⟩
      try dsimp only at hi
      refine AW.rS ?_
      refine AW.seq ?_
      refine AW.c2 ?_ ?_
      · intro h24
        have hfl : (userL d n (d.items.take i)).length ≤ i := fm_len d.items i (fun i => usesR d n i.obj) (·.num)
        have hib := ibulk_get (l := d.items) (i := i) (by omega)
        refine AW.skip ?_
        refine AW.seq ?_
        refine AW.block ?_
        refine AW.rS ?_
        refine AW.rSC ?_
        refine awOps.cons (awGuard.c1 (c_foliantref29_uses _ d (d.items.getD i Itm.zero).obj n (by omega) (by omega)) ?_)
        refine awOps.rn ?_
        refine AW.c2 ?_ ?_
        · intro h32
          have hy : userL d n (d.items.take (i + 1)) = userL d n (d.items.take i) ++ [(d.items.getD i Itm.zero).num] := fm_yes (d := Itm.zero) (by omega) h32
          have hy2 := congrArg List.length hy
          rw [List.length_append, List.length_singleton] at hy2
          refine AW.rL ?_
          refine AW.rL ?_
          refine ⟨⟨i + 1, by omega⟩, ?_, ?_⟩
          · refine St.le.vx [0, 4] ?_
            rw [hy]
          · simp only []; omega
        · intro h32
          have hy : userL d n (d.items.take (i + 1)) = userL d n (d.items.take i) := fm_no (d := Itm.zero) (by omega) (by rw [h32]; simp)
          have hy2 := congrArg List.length hy
          refine AW.skip ?_
          refine AW.rL ?_
          refine ⟨⟨i + 1, by omega⟩, ?_, ?_⟩
          · refine St.le.vx [0, 1] ?_
            rw [hy]
          · simp only []; omega
      · intro h24
        refine AW.exit ?_
        refine AW.rS ?_
        refine AW.rt ?_
        obtain rfl : i = d.items.length := by omega
        rw [List.take_length, usersR, if_pos h6, if_pos h16]
        first | trivial | rfl
    · intro h16
      refine AW.skip ?_
      refine AW.seq ?_
      refine AW.rS ?_
      refine AW.block ?_
      refine AW.pre (St.le.nilrow 5 1 (by (simp only [go_sem, seval]; try (simp (disch := omega) only [zqa, zqb, zqc, zqd, zqe, zqf, zqg, zqh, zqi, zqj, zqk, zql, zqm, zqn, zqo, zqp, zqq, zqr, zqs]; try (simp only [go_sem, seval]; try (simp (disch := omega) only [zqa, zqb, zqc, zqd, zqe, zqf, zqg, zqh, zqi, zqj, zqk, zql, zqm, zqn, zqo, zqp, zqq, zqr, zqs]; try simp only [go_sem, seval])))))) ?_
      refine wk ?_
      refine AW.lk (S := { i : Nat // i ≤ d.items.length }) [1, 2, 20, 21] (fun s_ => [(5, .row 1 0 (userL d n (d.items.take s_.1)).length), (22, .int .i64 s_.1)]) (fun s_ => [(0, .cells d.cells), (1, .row 1 (intsAV (userL d n (d.items.take s_.1))) true)]) 2 (fun s_ => d.items.length - s_.1) ⟨0, Nat.zero_le _⟩ ?_ ?_
      · refine St.le.vw [0, 1]
      rintro ⟨i, hi⟩
      try dsimp only at hi
      refine AW.rS ?_
      refine AW.seq ?_
      refine AW.c2 ?_ ?_
      · intro h50
        have hfl : (userL d n (d.items.take i)).length ≤ i := fm_len d.items i (fun i => usesR d n i.obj) (·.num)
        have hib := ibulk_get (l := d.items) (i := i) (by omega)
        refine AW.skip ?_
        refine AW.seq ?_
        refine AW.block ?_
        refine AW.rS ?_
        refine AW.rSC ?_
        refine awOps.cons (awGuard.c1 (c_foliantref29_uses _ d (d.items.getD i Itm.zero).obj n (by omega) (by omega)) ?_)
        refine awOps.rn ?_
        refine AW.c2 ?_ ?_
        · intro h58
          have hy : userL d n (d.items.take (i + 1)) = userL d n (d.items.take i) ++ [(d.items.getD i Itm.zero).num] := fm_yes (d := Itm.zero) (by omega) h58
          have hy2 := congrArg List.length hy
          rw [List.length_append, List.length_singleton] at hy2
          refine AW.rL ?_
          refine AW.rL ?_
          refine ⟨⟨i + 1, by omega⟩, ?_, ?_⟩
          · refine St.le.vx [0, 4] ?_
            rw [hy]
          · simp only []; omega
        · intro h58
          have hy : userL d n (d.items.take (i + 1)) = userL d n (d.items.take i) := fm_no (d := Itm.zero) (by omega) (by rw [h58]; simp)
          have hy2 := congrArg List.length hy
          refine AW.skip ?_
          refine AW.rL ?_
          refine ⟨⟨i + 1, by omega⟩, ?_, ?_⟩
          · refine St.le.vx [0, 1] ?_
            rw [hy]
          · simp only []; omega
      · intro h50
        refine AW.exit ?_
        refine AW.rS ?_
        refine AW.rt ?_
        obtain rfl : i = d.items.length := by omega
        rw [List.take_length, usersR, if_pos h6, if_neg (by simp [h16]), List.nil_append]
end Go.Proofs

namespace Go.Proofs
open Go Aw
set_option linter.unusedSimpArgs false
set_option linter.unusedVariables false
set_option maxRecDepth 100000
set_option maxHeartbeats 4000000
attribute [local go_sem] take_intsAV drop_intsAV app_intsAV app1_intsAV take_objsAV drop_objsAV app_objsAV app1_objsAV
theorem tk3 (a b : List Int) (x : Int) : List.take (a.length + 1 + b.length) (List.take (a.length + 1) (a ++ [x]) ++ b) = a ++ [x] ++ b := by
  rw [List.take_of_length_le (l := a ++ [x]) (by simp)]
  exact List.take_of_length_le (by simp; omega)
theorem c_foliantref29_Rising (gl : List (Nat × AV)) (l : List Int) (hl : l.length ≤ 16777000) : FnP Tryz.prog (gl) 28 [.sl (intsAV l)] fun r => r = .ret (.sl (intsAV (l.foldl numIns []))) := by
  refine FnP.intro Tryz.func28 rfl rfl (by simp [Tryz.ntmps28]) ?_
  simp only [argEnv, Tryz.ntmps28, Tryz.results28]
  refine AW.rS ?_
  refine AW.rS ?_
  refine AW.seq ?_
  refine AW.rS ?_
  refine AW.block ?_
  refine AW.pre (St.le.nilrow 3 1 (by (simp only [go_sem, seval]; try (simp (disch := omega) only [zqa, zqb, zqc, zqd, zqe, zqf, zqg, zqh, zqi, zqj, zqk, zql, zqm, zqn, zqo, zqp, zqq, zqr, zqs]; try (simp only [go_sem, seval]; try (simp (disch := omega) only [zqa, zqb, zqc, zqd, zqe, zqf, zqg, zqh, zqi, zqj, zqk, zql, zqm, zqn, zqo, zqp, zqq, zqr, zqs]; try simp only [go_sem, seval])))))) ?_
  refine wk ?_
  refine AW.clo 3 ?_
  refine wk ?_
  refine AW.lk (S := { i : Nat // i ≤ l.length }) [7, 8] (fun s_ => [(3, .sl (intsAV ((l.take s_.1).foldl numIns []))), (9, .int .i64 s_.1)]) (fun s_ => []) 0 (fun s_ => l.length - s_.1) ⟨0, Nat.zero_le _⟩ ?_ ?_
  · refine St.le.vw []
  rintro ⟨i, hi⟩
  try dsimp only at hi
  refine AW.rS ?_
  refine AW.seq ?_
  refine AW.c2 ?_ ?_
  · intro h9
    have hfl := foldN_len (l.take i) []
    have hlt : (l.take i).length = i := by rw [List.length_take]; omega
    rw [List.length_nil, Nat.zero_add, hlt] at hfl
    have hfs := foldN_succ (l := l) (i := i) (by omega) []
    generalize hq : (l.take i).foldl numIns [] = q at hfl hfs ⊢
    refine AW.skip ?_
    refine AW.seq ?_
    refine AW.block ?_
    refine AW.rS ?_
    refine AW.rS ?_
    refine AW.seq ?_
    refine AW.block ?_
    refine AW.lk (S := { j : Nat // j ≤ q.length ∧ ∀ a, a < j → q.getD a 0 < l.getD i 0 }) [3, 5, 7, 8, 9] (fun s_ => [(6, .int .i64 s_.1)]) (fun s_ => []) 0 (fun s_ => q.length - s_.1) ⟨0, Nat.zero_le _, fun j h => absurd h (by omega)⟩ ?_ ?_
    · refine St.le.vw []
    rintro ⟨j, hj, hs⟩
    try dsimp only at hj
    try dsimp only at hs
    refine AW.seq ?_
    by_cases hs19 : j < q.length
    · skip
      refine AW.rS ?_
      refine AW.c2 ?_ ?_
      · intro h20
        refine AW.skip ?_
        refine AW.block ?_
        refine AW.rL ?_
        refine ⟨⟨j + 1, by omega, fun a ha => (Nat.lt_or_ge a j).elim (hs a) (fun h => (show a = j by omega) ▸ (by have := h20; simp at this; simpa using this.2))⟩, ?_, ?_⟩
        · refine St.le.vw []
        · simp only []; omega
      · intro h20
        refine AW.exit ?_
        have hp := nplace_eq (l := q) (n := l.getD i 0) hj hs (fun _ => by have := h20.elim (fun h => absurd hs19 h) id; omega)
        refine AW.seq ?_
        refine AW.rS ?_
        refine AW.c2 ?_ ?_
        · intro h28
          refine AW.exit ?_
          refine AW.rL ?_
          rw [show numIns q (l.getD i 0) = q from by unfold numIns; rw [hp, if_pos h28]] at hfs
          refine ⟨⟨i + 1, by omega⟩, ?_, by simp only []; omega⟩
          rw [hfs]
          exact St.le.vw []
        · intro h28
          refine AW.skip ?_
          have e : numIns q (l.getD i 0) = List.take ((List.take j q).length + 1 + (List.drop j q).length) (List.take ((List.take j q).length + 1) (List.take j q ++ [l.getD i 0]) ++ List.drop j q) := by rw [tk3]; unfold numIns; rw [hp, if_neg (fun h => h28.elim (fun h1 => h1 hs19) (fun h2 => h2 h.2))]
          refine AW.tL (.take 1 0 (.take 2 0 (.take 3 0 (.take 5 0 (.take 8 0 (.take 9 0 (.take 10 0 (.fork 0 (.fork 4 (.fork 6 (.fork 7 (.fork 11 (.take 12 0 .done) .stop) .stop) .stop) (.fork 6 (.fork 4 (.fork 7 (.fork 11 (.take 12 0 .done) .stop) .stop) .stop) .stop)) (.fork 6 (.fork 0 (.fork 4 (.fork 7 (.fork 11 (.take 12 0 .done) .stop) .stop) .stop) .stop) .stop))))))))) ?_
          intro σ' hσ
          simp only [List.map_cons, List.map_nil, List.mem_cons, List.not_mem_nil, or_false] at hσ
          rcases hσ with rfl | rfl | rfl
          all_goals
            simp only [St.norm, sortE, insE]
            refine AW.clo 3 ?_
            refine wk ?_
            refine AW.rL ?_
            refine ⟨⟨i + 1, by omega⟩, ?_, by simp only []; omega⟩
            rw [hfs, e]
            exact St.le.vw []
    · skip
      refine AW.rS ?_
      refine AW.c2 ?_ ?_
      · intro h20
        exfalso
        simp at h20
        try omega
      · intro h20
        refine AW.exit ?_
        have hp := nplace_eq (l := q) (n := l.getD i 0) hj hs (fun h => absurd h (by omega))
        refine AW.seq ?_
        refine AW.rS ?_
        refine AW.c2 ?_ ?_
        · intro h28
          exfalso
          simp at h28
          try omega
        · intro h28
          refine AW.skip ?_
          have e : numIns q (l.getD i 0) = List.take ((List.take j q).length + 1 + (List.drop j q).length) (List.take ((List.take j q).length + 1) (List.take j q ++ [l.getD i 0]) ++ List.drop j q) := by rw [tk3]; unfold numIns; rw [hp, if_neg (fun h => hs19 h.1)]
          refine AW.tL (.take 1 0 (.take 2 0 (.take 3 0 (.take 5 0 (.take 8 0 (.take 9 0 (.take 10 0 (.fork 0 (.fork 4 (.fork 6 (.fork 7 (.fork 11 (.take 12 0 .done) .stop) .stop) .stop) (.fork 6 (.fork 4 (.fork 7 (.fork 11 (.take 12 0 .done) .stop) .stop) .stop) .stop)) (.fork 6 (.fork 0 (.fork 4 (.fork 7 (.fork 11 (.take 12 0 .done) .stop) .stop) .stop) .stop) .stop))))))))) ?_
          intro σ' hσ
          simp only [List.map_cons, List.map_nil, List.mem_cons, List.not_mem_nil, or_false] at hσ
          rcases hσ with rfl | rfl | rfl
          all_goals
            simp only [St.norm, sortE, insE]
            refine AW.clo 3 ?_
            refine wk ?_
            refine AW.rL ?_
            refine ⟨⟨i + 1, by omega⟩, ?_, by simp only []; omega⟩
            rw [hfs, e]
            exact St.le.vw []
  · intro h9
    refine AW.exit ?_
    refine AW.rS ?_
    refine AW.rt ?_
    obtain rfl : i = l.length := by omega
    rw [List.take_length]
end Go.Proofs

namespace Aw
open Go
def inS (l : List Itm) (s : List Int) (r : Pob) : Prop := ∀ i, leadR l r = some i → i.num ∈ s
/-- a set that holds all that is led to -/
def closedR (l : List Itm) (start : List Pob) (s : List Int) : Prop := (∀ r ∈ start, inS l s r) ∧ ∀ i ∈ l, i.num ∈ s → ∀ r ∈ i.obj.rr, inS l s r
def leastR (l : List Itm) (start : List Pob) (s : List Int) : Prop := closedR l start s ∧ ∀ s', closedR l start s' → ∀ n ∈ s, n ∈ s'
theorem leastR_one {l : List Itm} {start : List Pob} {a b : List Int} (ha : leastR l start a) (hb : leastR l start b) (n : Int) : n ∈ a ↔ n ∈ b := ⟨ha.2 b hb.1 n, hb.2 a ha.1 n⟩
def restR (l : List Itm) (met : List Int) : Nat := ((l.filter fun i => !decide (i.num ∈ met)).map fun i => i.obj.rr.length).sum
theorem restR_cons (x : Itm) (l : List Itm) (met : List Int) : restR (x :: l) met = (if x.num ∈ met then 0 else x.obj.rr.length) + restR l met := by
  unfold restR
  rw [List.filter_cons]
  by_cases h : x.num ∈ met <;> simp [h]
theorem restR_more (l : List Itm) (met : List Int) (n : Int) : restR l (met ++ [n]) ≤ restR l met := by
  induction l with
  | nil => simp [restR]
  | cons x l ih =>
    rw [restR_cons, restR_cons]
    by_cases h : x.num ∈ met
    · rw [if_pos (List.mem_append_left _ h), if_pos h]
      omega
    · rw [if_neg h]
      split <;> omega
theorem restR_add {l : List Itm} {met : List Int} {i : Itm} (hi : i ∈ l) (hn : ¬ i.num ∈ met) : restR l (met ++ [i.num]) + i.obj.rr.length ≤ restR l met := by
  induction l with
  | nil => cases hi
  | cons x l ih =>
    rw [restR_cons, restR_cons]
    rcases List.mem_cons.1 hi with rfl | hi
    · have := restR_more l met i.num
      rw [if_pos (by simp), if_neg hn]
      omega
    · have := ih hi
      by_cases h : x.num ∈ met
      · rw [if_pos (List.mem_append_left _ h), if_pos h]
        omega
      · rw [if_neg h]
        split <;> omega
theorem restR_le (l : List Itm) (met : List Int) : restR l met ≤ ibulk l := by
  induction l with
  | nil => simp [restR]
  | cons x l ih =>
    have := rr_len x.obj
    rw [restR_cons, ibulk_cons]
    split <;> omega
/-- in the midst of the search -/
structure FromJ (l : List Itm) (start : List Pob) (met : List Int) (todo : List Pob) : Prop where
  nd : met.Nodup
  sub : ∀ n ∈ met, n ∈ l.map (·.num)
  st : ∀ r ∈ start, inS l met r ∨ r ∈ todo
  it : ∀ i ∈ l, i.num ∈ met → ∀ r ∈ i.obj.rr, inS l met r ∨ r ∈ todo
  least : ∀ s', closedR l start s' → (∀ n ∈ met, n ∈ s') ∧ ∀ r ∈ todo, inS l s' r
  small : todo.length + restR l met ≤ 33554432
theorem leadR_mem {l : List Itm} {r : Pob} {i : Itm} (h : leadR l r = some i) : i ∈ l ∧ i.num = r.num ∧ i.gen = r.gen := by
  have h1 := List.mem_of_find?_eq_some h
  have h2 := List.find?_some h
  simp only [Bool.and_eq_true, decide_eq_true_eq] at h2
  exact ⟨h1, h2⟩
theorem FromJ.top (l : List Itm) (o : Pob) (h : o.rr.length + ibulk l ≤ 33554432) : FromJ l o.rr [] o.rr :=
  ⟨List.nodup_nil, fun _ h => absurd h List.not_mem_nil, fun _ h => .inr h, fun _ _ h => absurd h List.not_mem_nil, fun _ hs => ⟨fun _ h => absurd h List.not_mem_nil, hs.1⟩, by
    have := restR_le l []
    omega⟩
theorem FromJ.skip {l : List Itm} {start : List Pob} {met : List Int} {x : Pob} {todo : List Pob} (h : FromJ l start met (x :: todo)) (hx : inS l met x) : FromJ l start met todo := by
  refine ⟨h.nd, h.sub, fun r hr => ?_, fun i hi hm r hr => ?_, fun s' hs => ⟨(h.least s' hs).1, fun r hr => (h.least s' hs).2 r (List.mem_cons_of_mem _ hr)⟩, by have := h.small; simp only [List.length_cons] at this; omega⟩
  · rcases h.st r hr with g | g
    · exact .inl g
    · rcases List.mem_cons.1 g with rfl | g
      · exact .inl hx
      · exact .inr g
  · rcases h.it i hi hm r hr with g | g
    · exact .inl g
    · rcases List.mem_cons.1 g with rfl | g
      · exact .inl hx
      · exact .inr g
theorem inS_more {l : List Itm} {s : List Int} {r : Pob} (h : inS l s r) (n : Int) : inS l (s ++ [n]) r := fun i hi => List.mem_append_left _ (h i hi)
theorem FromJ.add {l : List Itm} {start : List Pob} {met : List Int} {x : Pob} {todo : List Pob} {i : Itm} (hl : incrN l) (h : FromJ l start met (x :: todo)) (hx : leadR l x = some i) (hn : ¬ i.num ∈ met) : FromJ l start (met ++ [i.num]) (todo ++ i.obj.rr) := by
  have hm := (leadR_mem hx).1
  have hin : inS l (met ++ [i.num]) x := fun j hj => by
    rw [hx] at hj
    injection hj with hj
    subst hj
    simp
  refine ⟨?_, fun n hn' => ?_, fun r hr => ?_, fun j hj hm' r hr => ?_, fun s' hs => ?_, ?_⟩
  · rw [List.nodup_append]
    refine ⟨h.nd, by simp, fun a ha b hb => ?_⟩
    simp only [List.mem_singleton] at hb
    subst hb
    intro e
    subst e
    exact hn ha
  · rcases List.mem_append.1 hn' with g | g
    · exact h.sub n g
    · simp only [List.mem_singleton] at g
      subst g
      exact List.mem_map.2 ⟨i, hm, rfl⟩
  · rcases h.st r hr with g | g
    · exact .inl (inS_more g _)
    · rcases List.mem_cons.1 g with rfl | g
      · exact .inl hin
      · exact .inr (List.mem_append_left _ g)
  · rcases List.mem_append.1 hm' with g | g
    · rcases h.it j hj g r hr with g | g
      · exact .inl (inS_more g _)
      · rcases List.mem_cons.1 g with rfl | g
        · exact .inl hin
        · exact .inr (List.mem_append_left _ g)
    · simp only [List.mem_singleton] at g
      have e : j = i := incr_one hl hj hm g
      subst e
      exact .inr (List.mem_append_right _ hr)
  · obtain ⟨h1, h2⟩ := h.least s' hs
    have hi : i.num ∈ s' := h2 x List.mem_cons_self i hx
    refine ⟨fun n hn' => ?_, fun r hr => ?_⟩
    · rcases List.mem_append.1 hn' with g | g
      · exact h1 n g
      · simp only [List.mem_singleton] at g
        subst g
        exact hi
    · rcases List.mem_append.1 hr with g | g
      · exact h2 r (List.mem_cons_of_mem _ g)
      · exact hs.2 i hm hi r g
  · have h1 := h.small
    have h2 := restR_add hm hn
    simp only [List.length_cons, List.length_append] at h1 ⊢
    omega
theorem FromJ.end {l : List Itm} {start : List Pob} {met : List Int} (h : FromJ l start met []) : leastR l start met :=
  ⟨⟨fun r hr => (h.st r hr).elim id (fun g => absurd g List.not_mem_nil), fun i hi hm r hr => (h.it i hi hm r hr).elim id (fun g => absurd g List.not_mem_nil)⟩, fun s' hs => (h.least s' hs).1⟩
theorem FromJ.len {l : List Itm} {start : List Pob} {met : List Int} {todo : List Pob} (h : FromJ l start met todo) : met.length ≤ l.length := by
  have := nodup_le h.nd h.sub
  simpa using this
end Aw

namespace Go.Proofs
open Go Aw
set_option linter.unusedSimpArgs false
set_option linter.unusedVariables false
set_option maxRecDepth 100000
set_option maxHeartbeats 4000000
attribute [local go_sem] take_intsAV drop_intsAV app_intsAV app1_intsAV take_objsAV drop_objsAV app_objsAV app1_objsAV List.length_append List.length_cons List.length_nil List.length_drop List.length_take Nat.sub_zero
theorem c_foliantref29_From (gl : List (Nat × AV)) (d : Dc) (o : Pob) (h : d.tot ≤ 16777000) (ho : o.tot ≤ 16777000) (hf : docE d = 0 → chk o 1 = 0 → ∀ met, leastR d.items o.rr met → met.foldl numIns [] = fromP d o) : FnP Tryz.prog (gl) 11 [.agg d.cells, .agg o.cells] fun r => r = .ret (.sl (intsAV (fromP d o))) := by
  refine FnP.intro Tryz.func11 rfl rfl (by simp [Tryz.ntmps11]) ?_
  simp only [argEnv, Tryz.ntmps11, Tryz.results11]
  have hbk := Dc.bulk_tot d
  have hob := Pob.bulk_tot o
  have hdb : d.bulk = ibulk d.items + d.trailer.bulk := rfl
  have hlen := ibulk_len d.items
  have hrl := rr_len o
  refine AW.rS ?_
  refine AW.seq ?_
  refine AW.rSC ?_
  refine awOps.cons (awGuard.c1 (c_foliantref19_Check _ d (by omega)) ?_)
  refine awOps.rn ?_
  refine awOps.cons (awGuard.cG (fun hg => c_foliantref05_Check _ o (by omega)) ?_)
  refine awOps.rn ?_
  refine AW.c2 ?_ ?_
  · intro h8
    refine AW.rS ?_
    refine AW.rt ?_
    · rw [fromP, if_neg (fun hh => by simp [hh.1, hh.2] at h8)]
      rfl
    all_goals first | contradiction | rfl | (simp; done) | (simp; omega)
  · intro h8
    have hd0 : docE d = 0 := h8.1
    have hc0 : chk o 1 = 0 := h8.2
    have hinc := items_incr (docE_items hd0)
    refine AW.skip ?_
    refine AW.rS ?_
    refine AW.rSC ?_
    refine awOps.cons (awGuard.cH [] (h_foliantref29_Refs _ o (by omega)) ?_)
    refine awOps.rn ?_
    refine AW.seq ?_
    refine AW.block ?_
    refine AW.pre (St.le.nilrow 5 1 (by (simp only [go_sem, seval]; try (simp (disch := omega) only [zqa, zqb, zqc, zqd, zqe, zqf, zqg, zqh, zqi, zqj, zqk, zql, zqm, zqn, zqo, zqp, zqq, zqr, zqs]; try (simp only [go_sem, seval]; try (simp (disch := omega) only [zqa, zqb, zqc, zqd, zqe, zqf, zqg, zqh, zqi, zqj, zqk, zql, zqm, zqn, zqo, zqp, zqq, zqr, zqs]; try simp only [go_sem, seval])))))) ?_
    refine wk ?_
    refine AW.fz [4] ?_
    refine AW.lk (S := { p : (List Int × List Pob) × Nat // p.2 ≤ p.1.2.length ∧ FromJ d.items o.rr p.1.1 (p.1.2.drop p.2) }) [2] (fun s_ => [(5, .row 1 0 s_.1.1.1.length), (6, .row 2 s_.1.2 (s_.1.1.2.length - s_.1.2))]) (fun s_ => [(0, .cells d.cells), (1, .row 1 (intsAV s_.1.1.1) false), (2, .row 6 (objsAV s_.1.1.2) true)]) 3 (fun s_ => (s_.1.1.2.length - s_.1.2) + restR d.items s_.1.1.1) ⟨(([], o.rr), 0), Nat.zero_le _, by rw [List.drop_zero]; exact FromJ.top _ _ (by omega)⟩ ?_ ?_
    · refine St.le.vw [0, 4, 3]
    rintro ⟨⟨⟨met, full⟩, off⟩, hoff, hj⟩
    try dsimp only at hoff
    try dsimp only at hj
    refine AW.seq ?_
    refine AW.rS ?_
    refine AW.c2 ?_ ?_
    · intro h22
      have hoff' : off < full.length := by simp at h22; omega
      have hdr : full.drop off = full.getD off Pob.null :: full.drop (off + 1) := by
        rw [List.drop_eq_getElem_cons hoff']
        simp [List.getD, List.getElem?_eq_getElem hoff']
      rw [hdr] at hj
      have hml := hj.len
      have hsm := hj.small
      simp only [List.length_cons, List.length_drop] at hsm
      refine AW.skip ?_
      refine AW.block ?_
      refine AW.tG (σf := ?sf6) (.take 1 0 (.fork 0 (.fork 2 (.fork 3 (.fork 4 (.take 5 0 (.take 6 0 (.take 7 0 (.fork 8 (.fork 9 (.take 10 0 .done) .stop) .stop)))) (.fork 8 (.fork 4 (.take 5 0 (.take 6 0 (.take 7 0 (.fork 9 (.take 10 0 .done) .stop)))) .stop) .stop)) (.fork 8 (.fork 3 (.fork 4 (.take 5 0 (.take 6 0 (.take 7 0 (.fork 9 (.take 10 0 .done) .stop)))) .stop) .stop) .stop)) (.fork 8 (.fork 2 (.fork 3 (.fork 4 (.take 5 0 (.take 6 0 (.take 7 0 (.fork 9 (.take 10 0 .done) .stop)))) .stop) .stop) .stop) .stop)) (.fork 2 (.fork 0 (.fork 3 (.fork 4 (.take 5 0 (.take 6 0 (.take 7 0 (.fork 8 (.fork 9 (.take 10 0 .done) .stop) .stop)))) (.fork 8 (.fork 4 (.take 5 0 (.take 6 0 (.take 7 0 (.fork 9 (.take 10 0 .done) .stop)))) .stop) .stop)) (.fork 8 (.fork 3 (.fork 4 (.take 5 0 (.take 6 0 (.take 7 0 (.fork 9 (.take 10 0 .done) .stop)))) .stop) .stop) .stop)) (.fork 3 (.fork 0 (.fork 4 (.take 5 0 (.take 6 0 (.take 7 0 (.fork 8 (.fork 9 (.take 10 0 .done) .stop) .stop)))) (.fork 8 (.fork 4 (.take 5 0 (.take 6 0 (.take 7 0 (.fork 9 (.take 10 0 .done) .stop)))) .stop) .stop)) (.fork 8 (.fork 0 (.fork 4 (.take 5 0 (.take 6 0 (.take 7 0 (.fork 9 (.take 10 0 .done) .stop)))) .stop) .stop) .stop)) (.fork 8 (.fork 0 (.fork 3 (.fork 4 (.take 5 0 (.take 6 0 (.take 7 0 (.fork 9 (.take 10 0 .done) .stop)))) .stop) .stop) (.fork 3 (.fork 0 (.fork 4 (.take 5 0 (.take 6 0 (.take 7 0 (.fork 9 (.take 10 0 .done) .stop)))) .stop) .stop) .stop)) .stop))) (.fork 8 (.fork 0 (.fork 2 (.fork 3 (.fork 4 (.take 5 0 (.take 6 0 (.take 7 0 (.fork 9 (.take 10 0 .done) .stop)))) .stop) .stop) .stop) (.fork 2 (.fork 0 (.fork 3 (.fork 4 (.take 5 0 (.take 6 0 (.take 7 0 (.fork 9 (.take 10 0 .done) .stop)))) .stop) .stop) (.fork 3 (.fork 0 (.fork 4 (.take 5 0 (.take 6 0 (.take 7 0 (.fork 9 (.take 10 0 .done) .stop)))) .stop) .stop) .stop)) .stop)) .stop)))) ?tree6 ?rest6
      case tree6 =>
        refine awTree.tk ?_
        refine awTree.fA ?_ ?_
        · refine awTree.fA ?_ ?_
          · refine awTree.fA ?_ ?_
            · refine awTree.fC (c_foliantref29_Leads _ d (full.getD off Pob.null) (by omega)) ?_ ?_
              · refine awTree.tk ?_
                refine awTree.tk ?_
                refine awTree.tk ?_
                refine awTree.fA ?_ ?_
                · refine awTree.fA ?_ ?_
                  · refine awTree.tk ?_
                    exact awTree.dn
                  · exact trivial
                · exact trivial
              · refine awTree.fA ?_ ?_
                · refine awTree.fC (c_foliantref29_Leads _ d (full.getD off Pob.null) (by omega)) ?_ ?_
                  · refine awTree.tk ?_
                    refine awTree.tk ?_
                    refine awTree.tk ?_
                    refine awTree.fA ?_ ?_
                    · refine awTree.tk ?_
                      exact awTree.dn
                    · exact trivial
                  · exact trivial
                · exact trivial
            · refine awTree.fA ?_ ?_
              · refine awTree.fA ?_ ?_
                · refine awTree.fC (c_foliantref29_Leads _ d (full.getD off Pob.null) (by omega)) ?_ ?_
                  · refine awTree.tk ?_
                    refine awTree.tk ?_
                    refine awTree.tk ?_
                    refine awTree.fA ?_ ?_
                    · refine awTree.tk ?_
                      exact awTree.dn
                    · exact trivial
                  · exact trivial
                · exact trivial
              · exact trivial
          · refine awTree.fA ?_ ?_
            · refine awTree.fA ?_ ?_
              · refine awTree.fA ?_ ?_
                · refine awTree.fC (c_foliantref29_Leads _ d (full.getD off Pob.null) (by omega)) ?_ ?_
                  · refine awTree.tk ?_
                    refine awTree.tk ?_
                    refine awTree.tk ?_
                    refine awTree.fA ?_ ?_
                    · refine awTree.tk ?_
                      exact awTree.dn
                    · exact trivial
                  · exact trivial
                · exact trivial
              · exact trivial
            · exact trivial
        · refine awTree.fA ?_ ?_
          · refine awTree.fA ?_ ?_
            · refine awTree.fA ?_ ?_
              · refine awTree.fC (c_foliantref29_Leads _ d (full.getD off Pob.null) (by omega)) ?_ ?_
                · refine awTree.tk ?_
                  refine awTree.tk ?_
                  refine awTree.tk ?_
                  refine awTree.fA ?_ ?_
                  · refine awTree.fA ?_ ?_
                    · refine awTree.tk ?_
                      exact awTree.dn
                    · exact trivial
                  · exact trivial
                · refine awTree.fA ?_ ?_
                  · refine awTree.fC (c_foliantref29_Leads _ d (full.getD off Pob.null) (by omega)) ?_ ?_
                    · refine awTree.tk ?_
                      refine awTree.tk ?_
                      refine awTree.tk ?_
                      refine awTree.fA ?_ ?_
                      · refine awTree.tk ?_
                        exact awTree.dn
                      · exact trivial
                    · exact trivial
                  · exact trivial
              · refine awTree.fA ?_ ?_
                · refine awTree.fA ?_ ?_
                  · refine awTree.fC (c_foliantref29_Leads _ d (full.getD off Pob.null) (by omega)) ?_ ?_
                    · refine awTree.tk ?_
                      refine awTree.tk ?_
                      refine awTree.tk ?_
                      refine awTree.fA ?_ ?_
                      · refine awTree.tk ?_
                        exact awTree.dn
                      · exact trivial
                    · exact trivial
                  · exact trivial
                · exact trivial
            · refine awTree.fA ?_ ?_
              · refine awTree.fA ?_ ?_
                · refine awTree.fC (c_foliantref29_Leads _ d (full.getD off Pob.null) (by omega)) ?_ ?_
                  · refine awTree.tk ?_
                    refine awTree.tk ?_
                    refine awTree.tk ?_
                    refine awTree.fA ?_ ?_
                    · refine awTree.fA ?_ ?_
                      · refine awTree.tk ?_
                        exact awTree.dn
                      · exact trivial
                    · exact trivial
                  · refine awTree.fA ?_ ?_
                    · refine awTree.fC (c_foliantref29_Leads _ d (full.getD off Pob.null) (by omega)) ?_ ?_
                      · refine awTree.tk ?_
                        refine awTree.tk ?_
                        refine awTree.tk ?_
                        refine awTree.fA ?_ ?_
                        · refine awTree.tk ?_
                          exact awTree.dn
                        · exact trivial
                      · exact trivial
                    · exact trivial
                · refine awTree.fA ?_ ?_
                  · refine awTree.fA ?_ ?_
                    · refine awTree.fC (c_foliantref29_Leads _ d (full.getD off Pob.null) (by omega)) ?_ ?_
                      · refine awTree.tk ?_
                        refine awTree.tk ?_
                        refine awTree.tk ?_
                        refine awTree.fA ?_ ?_
                        · refine awTree.tk ?_
                          exact awTree.dn
                        · exact trivial
                      · exact trivial
                    · exact trivial
                  · exact trivial
              · refine awTree.fA ?_ ?_
                · refine awTree.fA ?_ ?_
                  · refine awTree.fA ?_ ?_
                    · refine awTree.fC (c_foliantref29_Leads _ d (full.getD off Pob.null) (by omega)) ?_ ?_
                      · refine awTree.tk ?_
                        refine awTree.tk ?_
                        refine awTree.tk ?_
                        refine awTree.fA ?_ ?_
                        · refine awTree.tk ?_
                          exact awTree.dn
                        · exact trivial
                      · exact trivial
                    · exact trivial
                  · refine awTree.fA ?_ ?_
                    · refine awTree.fA ?_ ?_
                      · refine awTree.fC (c_foliantref29_Leads _ d (full.getD off Pob.null) (by omega)) ?_ ?_
                        · refine awTree.tk ?_
                          refine awTree.tk ?_
                          refine awTree.tk ?_
                          refine awTree.fA ?_ ?_
                          · refine awTree.tk ?_
                            exact awTree.dn
                          · exact trivial
                        · exact trivial
                      · exact trivial
                    · exact trivial
                · exact trivial
          · refine awTree.fA ?_ ?_
            · refine awTree.fA ?_ ?_
              · refine awTree.fA ?_ ?_
                · refine awTree.fA ?_ ?_
                  · refine awTree.fC (c_foliantref29_Leads _ d (full.getD off Pob.null) (by omega)) ?_ ?_
                    · refine awTree.tk ?_
                      refine awTree.tk ?_
                      refine awTree.tk ?_
                      refine awTree.fA ?_ ?_
                      · refine awTree.tk ?_
                        exact awTree.dn
                      · exact trivial
                    · exact trivial
                  · exact trivial
                · exact trivial
              · refine awTree.fA ?_ ?_
                · refine awTree.fA ?_ ?_
                  · refine awTree.fA ?_ ?_
                    · refine awTree.fC (c_foliantref29_Leads _ d (full.getD off Pob.null) (by omega)) ?_ ?_
                      · refine awTree.tk ?_
                        refine awTree.tk ?_
                        refine awTree.tk ?_
                        refine awTree.fA ?_ ?_
                        · refine awTree.tk ?_
                          exact awTree.dn
                        · exact trivial
                      · exact trivial
                    · exact trivial
                  · refine awTree.fA ?_ ?_
                    · refine awTree.fA ?_ ?_
                      · refine awTree.fC (c_foliantref29_Leads _ d (full.getD off Pob.null) (by omega)) ?_ ?_
                        · refine awTree.tk ?_
                          refine awTree.tk ?_
                          refine awTree.tk ?_
                          refine awTree.fA ?_ ?_
                          · refine awTree.tk ?_
                            exact awTree.dn
                          · exact trivial
                        · exact trivial
                      · exact trivial
                    · exact trivial
                · exact trivial
            · exact trivial
      skip
      skip
      skip
      refine AW.rS ?_
      refine AW.rSC ?_
      refine awOps.cons (awGuard.cG (fun hg => c_foliantref29_has _ met ((leadR d.items (full.getD off Pob.null)).getD Itm.zero).num (by omega)) ?_)
      refine awOps.rn ?_
      refine AW.c2 ?_ ?_
      · intro h33
        obtain ⟨hs1, hs2⟩ := h33
        have hi : leadR d.items (full.getD off Pob.null) = some ((leadR d.items (full.getD off Pob.null)).getD Itm.zero) := by
          obtain ⟨i, hi⟩ := Option.isSome_iff_exists.1 hs1
          rw [hi]
          rfl
        have hadd := restR_add (leadR_mem hi).1 hs2
        have hjj := hj.add hinc hi hs2
        have hib := items_bulk (d := d) (k := d.bulk) (Nat.le_refl _) _ (leadR_mem hi).1
        have hirl := rr_len ((leadR d.items (full.getD off Pob.null)).getD Itm.zero).obj
        have htk : List.take (full.length - off - 1) (full.drop (off + 1)) = full.drop (off + 1) := List.take_of_length_le (by simp; omega)
        have hl2 : (List.take (full.length - off - 1) (full.drop (off + 1)) ++ ((leadR d.items (full.getD off Pob.null)).getD Itm.zero).obj.rr).length = full.length - off - 1 + ((leadR d.items (full.getD off Pob.null)).getD Itm.zero).obj.rr.length := by rw [htk]; simp; omega
        refine AW.rS ?_
        refine AW.rLC ?_
        refine awOps.cons (awGuard.cH [] (h_foliantref29_Refs _ ((leadR d.items (full.getD off Pob.null)).getD Itm.zero).obj (by omega)) ?_)
        refine awOps.rn ?_
        refine ⟨⟨((met ++ [((leadR d.items (full.getD off Pob.null)).getD Itm.zero).num], List.take (full.length - off - 1) (full.drop (off + 1)) ++ ((leadR d.items (full.getD off Pob.null)).getD Itm.zero).obj.rr), 0), Nat.zero_le _, by rw [List.drop_zero, htk]; exact hjj⟩, ?_, ?_⟩
        · refine St.le.vw [0, 5, 8]
        · simp only []; omega
      · intro h33
        refine AW.skip ?_
        refine ⟨⟨((met, full), off + 1), hoff', hj.skip (fun i hi => by rw [hi] at h33; simpa using h33)⟩, ?_, ?_⟩
        · refine St.le.vw [0, 1, 2]
        · simp only []; omega
    · intro h22
      have hoe : off = full.length := by simp at h22; omega
      rw [hoe, List.drop_length] at hj
      have hml := hj.len
      refine AW.exit ?_
      refine AW.rSC ?_
      refine awOps.cons (awGuard.c1 (c_foliantref29_Rising _ met (by omega)) ?_)
      refine awOps.rn ?_
      refine AW.rt ?_
      rw [hf hd0 hc0 met hj.end]
end Go.Proofs

namespace Go.Proofs
open Go Aw
set_option linter.unusedSimpArgs false
set_option linter.unusedVariables false
set_option maxRecDepth 100000
set_option maxHeartbeats 4000000
attribute [local go_sem] take_intsAV drop_intsAV app_intsAV app1_intsAV take_objsAV drop_objsAV app_objsAV app1_objsAV
theorem c_foliantref29_Reach (gl : List (Nat × AV)) (d : Dc) (h : d.tot ≤ 16777000) (hf : docE d = 0 → chk d.trailer 1 = 0 → ∀ met, leastR d.items d.trailer.rr met → met.foldl numIns [] = fromP d d.trailer) : FnP Tryz.prog (gl) 9 [.agg d.cells] fun r => r = .ret (.sl (intsAV (fromP d d.trailer))) := by
  refine FnP.intro Tryz.func9 rfl rfl (by simp [Tryz.ntmps9]) ?_
  simp only [argEnv, Tryz.ntmps9, Tryz.results9]
  refine AW.rS ?_
  refine AW.rSC ?_
  refine awOps.cons (awGuard.c1 (c_foliantref29_From _ d d.trailer h (Nat.le_trans (Nat.le_add_left _ _) h) hf) ?_)
  refine awOps.rn ?_
  refine AW.rt ?_
  all_goals first | contradiction | rfl | (simp; done) | (simp; omega)
theorem lostI_nil (m : List Int) : lostI m [] = [] := rfl
attribute [local go_sem] lostI_nil
theorem c_foliantref29_Lost (gl : List (Nat × AV)) (d : Dc) (h : d.tot ≤ 16777000) (hf : docE d = 0 → chk d.trailer 1 = 0 → ∀ met, leastR d.items d.trailer.rr met → met.foldl numIns [] = fromP d d.trailer) (hfl : (fromP d d.trailer).length ≤ 16777216) : FnP Tryz.prog (gl) 13 [.agg d.cells] fun r => r = .ret (.sl (intsAV (lostR d))) := by
  refine FnP.intro Tryz.func13 rfl rfl (by simp [Tryz.ntmps13]) ?_
  simp only [argEnv, Tryz.ntmps13, Tryz.results13]
  have hbk := Dc.bulk_tot d
  have hdb : d.bulk = ibulk d.items + d.trailer.bulk := rfl
  have hlen := ibulk_len d.items
  refine AW.rS ?_
  refine AW.seq ?_
  refine AW.rSC ?_
  refine awOps.cons (awGuard.c1 (c_foliantref19_Check _ d (by omega)) ?_)
  refine awOps.rn ?_
  refine AW.c2 ?_ ?_
  · intro h6
    refine AW.rS ?_
    refine AW.rt ?_
    · rw [lostR, if_neg (by simpa using h6)]
      first | trivial | rfl
    all_goals first | contradiction | rfl | (simp; done) | (simp; omega)
  · intro h6
    refine AW.skip ?_
    refine AW.rSC ?_
    refine awOps.cons (awGuard.c1 (c_foliantref29_Reach _ d h hf) ?_)
    refine awOps.rn ?_
    refine AW.rS ?_
    refine AW.seq ?_
    refine AW.rS ?_
    refine AW.block ?_
    refine AW.pre (St.le.nilrow 4 1 (by (simp only [go_sem, seval]; try (simp (disch := omega) only [zqa, zqb, zqc, zqd, zqe, zqf, zqg, zqh, zqi, zqj, zqk, zql, zqm, zqn, zqo, zqp, zqq, zqr, zqs]; try (simp only [go_sem, seval]; try (simp (disch := omega) only [zqa, zqb, zqc, zqd, zqe, zqf, zqg, zqh, zqi, zqj, zqk, zql, zqm, zqn, zqo, zqp, zqq, zqr, zqs]; try simp only [go_sem, seval])))))) ?_
    refine wk ?_
    refine AW.lk (S := { i : Nat // i ≤ d.items.length }) [3, 13, 14] (fun s_ => [(4, .row 1 0 (lostI (fromP d d.trailer) (d.items.take s_.1)).length), (15, .int .i64 s_.1)]) (fun s_ => [(1, .row 1 (intsAV (lostI (fromP d d.trailer) (d.items.take s_.1))) true)]) 2 (fun s_ => d.items.length - s_.1) ⟨0, Nat.zero_le _⟩ ?_ ?_
    · refine St.le.vw [0, 1]
    rintro ⟨i, hi⟩
    try dsimp only at hi
    refine AW.rS ?_
    refine AW.seq ?_
    refine AW.c2 ?_ ?_
    · intro h21
      have hfl2 : (lostI (fromP d d.trailer) (d.items.take i)).length ≤ i := fm_len d.items i (fun i => !decide (i.num ∈ fromP d d.trailer)) (·.num)
      refine AW.skip ?_
      refine AW.seq ?_
      refine AW.block ?_
      refine AW.rS ?_
      refine AW.rSC ?_
      refine awOps.cons (awGuard.c1 (c_foliantref29_has _ (fromP d d.trailer) (d.items.getD i Itm.zero).num hfl) ?_)
      refine awOps.rn ?_
      refine AW.c2 ?_ ?_
      · intro h29
        have hy : lostI (fromP d d.trailer) (d.items.take (i + 1)) = lostI (fromP d d.trailer) (d.items.take i) ++ [(d.items.getD i Itm.zero).num] := fm_yes (d := Itm.zero) (by omega) (by rw [decide_eq_false h29]; rfl)
        have hy2 := congrArg List.length hy
        rw [List.length_append, List.length_singleton] at hy2
        refine AW.rL ?_
        refine AW.rL ?_
        refine ⟨⟨i + 1, by omega⟩, ?_, ?_⟩
        · refine St.le.vx [0, 4] ?_
          rw [hy]
        · simp only []; omega
      · intro h29
        have hy : lostI (fromP d d.trailer) (d.items.take (i + 1)) = lostI (fromP d d.trailer) (d.items.take i) := fm_no (d := Itm.zero) (by omega) (by rw [decide_eq_true h29]; decide)
        have hy2 := congrArg List.length hy
        refine AW.skip ?_
        refine AW.rL ?_
        refine ⟨⟨i + 1, by omega⟩, ?_, ?_⟩
        · refine St.le.vx [0, 1] ?_
          rw [hy]
        · simp only []; omega
    · intro h21
      refine AW.exit ?_
      refine AW.rS ?_
      refine AW.rt ?_
      · obtain rfl : i = d.items.length := by omega
        rw [List.take_length, lostR, if_pos h6]
      all_goals first | contradiction | rfl | (simp; done) | (simp; omega)
end Go.Proofs

namespace Go.Proofs
open Go Aw
set_option linter.unusedSimpArgs false
set_option linter.unusedVariables false
set_option maxRecDepth 100000
set_option maxHeartbeats 4000000
attribute [local go_sem] take_intsAV drop_intsAV app_intsAV app1_intsAV take_objsAV drop_objsAV app_objsAV app1_objsAV
theorem dangI_nil (d : Dc) : dangI d [] = [] := rfl
attribute [local go_sem] dangI_nil List.length_append
def allR (d : Dc) (i : Nat) : List Pob := d.trailer.rr ++ itemsRR (d.items.take i)
theorem allR_zero (d : Dc) : allR d 0 = d.trailer.rr := by simp [allR, itemsRR, rrs]
theorem itemsRR_take {l : List Itm} {i : Nat} (h : i < l.length) : itemsRR (l.take (i + 1)) = itemsRR (l.take i) ++ (l.getD i Itm.zero).obj.rr := by
  unfold itemsRR
  rw [List.take_add_one, List.map_append, rrs_append, List.getElem?_eq_getElem h]
  simp [rrs, List.getD, List.getElem?_eq_getElem h]
theorem itemsRR_len (l : List Itm) : (itemsRR l).length ≤ ibulk l := by
  induction l with
  | nil => simp [itemsRR, rrs]
  | cons x l ih =>
    have := rr_len x.obj
    rw [ibulk_cons]
    simp only [itemsRR, List.map_cons, rrs, List.length_append] at ih ⊢
    omega
theorem allR_len (d : Dc) (i : Nat) : (allR d i).length ≤ d.bulk := by
  have h1 := itemsRR_len (d.items.take i)
  have h2 := ibulk_take_le d.items i
  have h3 := rr_len d.trailer
  have h4 : d.bulk = ibulk d.items + d.trailer.bulk := rfl
  simp only [allR, List.length_append]
  omega
theorem allR_succ {d : Dc} {i : Nat} (h : i < d.items.length) : allR d (i + 1) = allR d i ++ (d.items.getD i Itm.zero).obj.rr := by
  unfold allR
  rw [itemsRR_take h, List.append_assoc]
theorem c_foliantref29_Dangling (gl : List (Nat × AV)) (d : Dc) (h : d.tot ≤ 16777000) : FnP Tryz.prog (gl) 15 [.agg d.cells] fun r => r = .ret (.sl (intsAV (dangR d))) := by
  refine FnP.intro Tryz.func15 rfl rfl (by simp [Tryz.ntmps15]) ?_
  simp only [argEnv, Tryz.ntmps15, Tryz.results15]
  have hbk := Dc.bulk_tot d
  have hdb : d.bulk = ibulk d.items + d.trailer.bulk := rfl
  have hlen := ibulk_len d.items
  have hal := allR_len d
  refine AW.rS ?_
  refine AW.seq ?_
  refine AW.rSC ?_
  refine awOps.cons (awGuard.c1 (c_foliantref19_Check _ d (by omega)) ?_)
  refine awOps.rn ?_
  refine AW.c2 ?_ ?_
  · intro h6
    refine AW.rS ?_
    refine AW.rt ?_
    · rw [dangR, if_neg (by simpa using h6)]
      first | trivial | rfl
    all_goals first | contradiction | rfl | (simp; done) | (simp; omega)
  · intro h6
    refine AW.skip ?_
    refine AW.rSC ?_
    refine awOps.cons (awGuard.cH [] (h_foliantref29_Refs _ d.trailer (by omega)) ?_)
    refine awOps.rn ?_
    refine AW.seq ?_
    refine AW.rS ?_
    refine AW.block ?_
    rw [← allR_zero d]
    refine AW.lk (S := { i : Nat // i ≤ d.items.length }) [1, 18, 19] (fun s_ => [(3, .row 1 0 (allR d s_.1).length), (20, .int .i64 s_.1)]) (fun s_ => [(0, .cells d.cells), (1, .row 6 (objsAV (allR d s_.1)) true)]) 2 (fun s_ => d.items.length - s_.1) ⟨0, Nat.zero_le _⟩ ?_ ?_
    · refine St.le.vw [0, 2]
    rintro ⟨i, hi⟩
    try dsimp only at hi
    refine AW.rS ?_
    refine AW.seq ?_
    refine AW.c2 ?_ ?_
    · intro h20
      have hts := allR_succ (d := d) (i := i) (by omega)
      have hf2 := congrArg List.length hts
      rw [List.length_append] at hf2
      have hib := ibulk_get (l := d.items) (i := i) (by omega)
      have hali := hal i
      have hrl := rr_len (d.items.getD i Itm.zero).obj
      refine AW.skip ?_
      refine AW.seq ?_
      refine AW.block ?_
      refine AW.rS ?_
      refine AW.rLC ?_
      refine awOps.cons (awGuard.cH [] (h_foliantref29_Refs _ (d.items.getD i Itm.zero).obj (by omega)) ?_)
      refine awOps.rn ?_
      refine AW.rL ?_
      refine ⟨⟨i + 1, by omega⟩, ?_, ?_⟩
      · refine St.le.vx [0, 5] ?_
        rw [hts]
      · simp only []; omega
    · intro h20
      refine AW.exit ?_
      obtain rfl : i = d.items.length := by omega
      generalize hall : allR d d.items.length = all
      have hll := hal d.items.length
      rw [hall] at hll
      refine AW.clo 3 ?_
      refine wk ?_
      refine AW.rS ?_
      refine AW.seq ?_
      refine AW.rS ?_
      refine AW.block ?_
      refine AW.pre (St.le.nilrow 6 1 (by (simp only [go_sem, seval]; try (simp (disch := omega) only [zqa, zqb, zqc, zqd, zqe, zqf, zqg, zqh, zqi, zqj, zqk, zql, zqm, zqn, zqo, zqp, zqq, zqr, zqs]; try (simp only [go_sem, seval]; try (simp (disch := omega) only [zqa, zqb, zqc, zqd, zqe, zqf, zqg, zqh, zqi, zqj, zqk, zql, zqm, zqn, zqo, zqp, zqq, zqr, zqs]; try simp only [go_sem, seval])))))) ?_
      refine wk ?_
      refine AW.lk (S := { j : Nat // j ≤ all.length }) [1, 30, 31] (fun s_ => [(6, .row 1 0 (dangI d (all.take s_.1)).length), (32, .int .i64 s_.1)]) (fun s_ => [(0, .cells d.cells), (1, .row 1 (intsAV (dangI d (all.take s_.1))) true)]) 2 (fun s_ => all.length - s_.1) ⟨0, Nat.zero_le _⟩ ?_ ?_
      · refine St.le.vw [0, 2]
      rintro ⟨j, hj⟩
      try dsimp only at hj
      refine AW.rS ?_
      refine AW.seq ?_
      refine AW.c2 ?_ ?_
      · intro h38
        have hfl2 : (dangI d (all.take j)).length ≤ j := fm_len all j (fun x => !(leadR d.items x).isSome) (·.num)
        refine AW.skip ?_
        refine AW.seq ?_
        refine AW.block ?_
        refine AW.rS ?_
        refine AW.rSC ?_
        refine awOps.cons (awGuard.c1 (c_foliantref29_Leads _ d (all.getD j Pob.null) (by omega)) ?_)
        refine awOps.rn ?_
        refine AW.rS ?_
        refine AW.c2 ?_ ?_
        · intro h47
          have hy : dangI d (all.take (j + 1)) = dangI d (all.take j) ++ [(all.getD j Pob.null).num] := fm_yes (d := Pob.null) (by omega) (by rw [h47]; rfl)
          have hy2 := congrArg List.length hy
          rw [List.length_append, List.length_singleton] at hy2
          refine AW.rL ?_
          refine AW.rL ?_
          refine ⟨⟨j + 1, by omega⟩, ?_, ?_⟩
          · refine St.le.vx [0, 5] ?_
            rw [hy]
          · simp only []; omega
        · intro h47
          have hy : dangI d (all.take (j + 1)) = dangI d (all.take j) := fm_no (d := Pob.null) (by omega) (by rw [h47]; decide)
          have hy2 := congrArg List.length hy
          refine AW.skip ?_
          refine AW.rL ?_
          refine ⟨⟨j + 1, by omega⟩, ?_, ?_⟩
          · refine St.le.vx [0, 1] ?_
            rw [hy]
          · simp only []; omega
      · intro h38
        refine AW.exit ?_
        obtain rfl : j = all.length := by omega
        have hdl : (dangI d all).length ≤ all.length := by
          have := fm_len all all.length (fun x => !(leadR d.items x).isSome) (·.num)
          rw [List.take_length] at this
          exact this
        rw [List.take_length]
        refine AW.rSC ?_
        refine awOps.cons (awGuard.c1 (c_foliantref29_Rising _ (dangI d all) (by omega)) ?_)
        refine awOps.rn ?_
        refine AW.rt ?_
        rw [dangR, if_pos h6, ← hall]
        simp [allR]
end Go.Proofs

namespace Go.Proofs
open Go Aw
set_option linter.unusedSimpArgs false
set_option linter.unusedVariables false
set_option maxRecDepth 100000
set_option maxHeartbeats 1000000
attribute [local go_sem ↓ high] noTBm_net
attribute [local go_sem] mres netL_nil
theorem c_graph_Dangling (gl : List (Nat × AV)) (d : Dc) (h : d.bulk ≤ 16777216) : FnP Tryz.prog gl 14 [.agg d.cells] fun r => r = .ret (.sl (intsAV (danglingP d))) := by
  refine FnP.introM Tryz.func14 rfl rfl (by simp [Tryz.ntmps14]) (by rintro q rfl; exact ⟨_, rfl⟩) ?_
  intro B_
  simp only [argEnv, Tryz.ntmps14, Tryz.results14]
  have hbk : d.bulk = ibulk d.items + d.trailer.bulk := rfl
  refine AWT.rS ?_
  refine AWT.rSC ?_
  by_cases hv : docE d = 0
  · refine OpsT.cN [] (FnT.ofH (h_graph_of _ d hv h)) ?_
    refine OpsT.rn ?_
    refine OpsT.nil ?_
    refine AWT.seq ?_
    refine AWT.rS ?_
    refine AWT.c2 ?_ ?_
    · intro h17
      simp at h17
    · intro _
      refine AWT.skip ?_
      refine AWT.rSC ?_
      refine OpsT.cs (awGuard.mkS (keyOk_int .i64) ?_)
      refine OpsT.rn ?_
      refine OpsT.nil ?_
      refine AWT.seq ?_
      refine AWT.rSC ?_
      refine OpsT.cN [] (FnT.ofH (h_graph_all _ d)) ?_
      refine OpsT.rn ?_
      refine OpsT.nil ?_
      refine AWT.block ?_
      refine AWT.rU [2, 1, 4, 3, 5] [] [(3, .ptr 0 0), (5, .ptr 2 0)] (fun j h k => j = none ∧ (∃ rl lq, h = [(0, .cells [.map 1]), (1, mapOf KI VI (netL d.items)), (2, .cells [.map 3]), (3, setOf (fun n => AV.int .i64 n) (dangS d)), (4, .cells (Dc.cells d)), (5, .lp lq rl)]) ∧ k = 6) (xs := [.ptr 4 0]) (hp0 := [(0, .cells [.map 1]), (1, mapOf KI VI (netL d.items)), (2, .cells [.map 3]), (3, setOf (fun n => AV.int .i64 n) []), (4, .cells (Dc.cells d))]) ?_ ?_
      · intro Ω _ lq rb rc hr
        refine (ad_all gl d d.items (dangAll d) (fun _ => True) (fun _ _ _ _ _ => trivial) lq rc (fun s n o _ hm => ?_) [] trivial h).mono (fun q hp nx hh => ⟨⟨_, hh.1⟩, none, by rw [hh.2.1]; rfl, rfl, ⟨_, _, hh.2.1⟩, hh.2.2⟩)
        have ho : o.bulk ≤ 16777216 := allL_bulk hm h
        refine hr [_, _] _ 6 _ rfl rfl ?_
        refine AWT.rL ?_
        refine ⟨rfl, rfl, ?_⟩
        refine AWT.block ?_
        refine AWT.rSC ?_
        refine OpsT.cN [] (FnT.ofH (h_graph_refs _ o)) ?_
        refine OpsT.rn ?_
        refine OpsT.nil ?_
        refine AWT.block ?_
        refine AWT.rUI [0, 1, 2, 3, 7] [] [(3, .ptr 0 0), (5, .ptr 2 0)] (fun j h k => j = none ∧ (∃ rl lq, h = [(0, .cells [.map 1]), (1, mapOf KI VI (netL d.items)), (2, .cells [.map 3]), (3, setOf (fun n => AV.int .i64 n) (dangAll d s n o)), (4, .cells (Pob.cells o)), (5, .lp lq rl)]) ∧ k = 6) (xs := [.ptr 4 0]) (hp0 := [(0, .cells [.map 1]), (1, mapOf KI VI (netL d.items)), (2, .cells [.map 3]), (3, setOf (fun n => AV.int .i64 n) s), (4, .cells (Pob.cells o))]) (k0 := 5) rfl ?_ ?_
        · intro Ω1 _ l1 rb1 rc1 hr1
          refine (wd_refs gl d.items o (dangStp d.items) .skip (fun _ => True) (fun _ _ _ => trivial) l1 rc1 (fun s1 o1 _ => ?_) s trivial ho).mono (fun q hp nx hh => ?_)
          · refine hr1 [_] _ 6 _ rfl rfl ?_
            refine AWT.rL ?_
            refine ⟨rfl, rfl, ?_⟩
            refine AWT.block ?_
            refine AWT.rSC ?_
            refine OpsT.cs (awGuard.c1 (c_graph_leads _ d.items o1) ?_)
            refine OpsT.rn ?_
            refine OpsT.nil ?_
            refine AWT.rS ?_
            refine AWT.c2 ?_ ?_
            · intro hl
              refine AWT.rLC ?_
              refine OpsT.cs (awGuard.upS (keyOk_int .i64) ?_)
              refine OpsT.rn ?_
              refine OpsT.nil ?_
              refine ⟨none, rfl, ⟨39, [], [(0, .cells [.map 1]), (1, mapOf KI VI (netL d.items)), (2, .cells [.map 3]), (3, setOf (fun n => AV.int .i64 n) (dangStp d.items s1 o1).1), (4, .cells (Pob.cells o)), (5, .lp l1 rb1)], 6, gl, 6, []⟩, ?_, rfl, by simp only [go_sem, seval], rfl, rfl, rfl⟩
              refine St.le.vx [0, 1, 2, 3, 4, 5] (hpre := (by decide : ∀ i, i < 6 → nth [0, 1, 2, 3, 4, 5] i = some i)) ?_
              simp [dangStp, hl]
            · intro hl
              refine AWT.skip ?_
              refine ⟨none, rfl, ⟨39, [], [(0, .cells [.map 1]), (1, mapOf KI VI (netL d.items)), (2, .cells [.map 3]), (3, setOf (fun n => AV.int .i64 n) (dangStp d.items s1 o1).1), (4, .cells (Pob.cells o)), (5, .lp l1 rb1)], 6, gl, 6, []⟩, ?_, rfl, by simp only [go_sem, seval], rfl, rfl, rfl⟩
              refine St.le.vx [0, 1, 2, 3, 4, 5] (hpre := (by decide : ∀ i, i < 6 → nth [0, 1, 2, 3, 4, 5] i = some i)) ?_
              simp [dangStp, hl]
          · have hl := walkR_last (dang_last d.items) o.pre s
            refine ⟨⟨_, hh.1⟩, none, ?_, rfl, ?_, hh.2.2⟩
            · rw [hh.2.1, hl]; rfl
            · exact ⟨_, _, hh.2.1⟩
        · rintro j hp' nx' ⟨rfl, ⟨rl, l1, rfl⟩, rfl⟩
          refine ⟨by simp only [go_sem, seval], ?_⟩
          refine ⟨none, rfl, ⟨39, [], [(0, .cells [.map 1]), (1, mapOf KI VI (netL d.items)), (2, .cells [.map 3]), (3, setOf (fun n => AV.int .i64 n) (dangAll d s n o)), (4, .cells (Dc.cells d)), (5, .lp lq rb)], 6, gl, 6, []⟩, ?_, rfl, by simp only [go_sem, seval], rfl, rfl, rfl⟩
          refine St.le.vw [0, 1, 2, 3, 4, 5] (hpre := (by decide : ∀ i, i < 6 → nth [0, 1, 2, 3, 4, 5] i = some i))
      · rintro j hp' nx' ⟨rfl, ⟨rl, l1, rfl⟩, rfl⟩
        refine ⟨by simp only [go_sem, seval], ?_⟩
        refine AWT.rSC ?_
        refine OpsT.cN [3] (h_graph_rising _ (dangS d) (fun x hx => litwf (dangS_wf hv x hx)) (Nat.le_trans (dangS_len d) h)) ?_
        refine OpsT.rn ?_
        refine OpsT.nil ?_
        refine AWT.rt ?_
        rw [danglingP, if_pos hv]
  · refine OpsT.cs (awGuard.c1 (c_graph_of_bad _ d hv h) ?_)
    refine OpsT.rn ?_
    refine OpsT.nil ?_
    refine AWT.seq ?_
    refine AWT.rS ?_
    refine AWT.c2 ?_ ?_
    · intro _
      refine AWT.rS ?_
      refine AWT.rt ?_
      rw [danglingP, if_neg hv]
      first | trivial | rfl
    · intro h17
      simp at h17
end Go.Proofs

namespace Go.Proofs
open Go Aw
set_option linter.unusedSimpArgs false
set_option linter.unusedVariables false
set_option maxRecDepth 100000
set_option maxHeartbeats 1000000
attribute [local go_sem ↓ high] noTBm_net
attribute [local go_sem] mres netL_nil VI mfind
theorem c_graph_Users (gl : List (Nat × AV)) (d : Dc) (num : Int) (h : d.bulk ≤ 16777216) : FnP Tryz.prog gl 16 [.agg d.cells, .int .i64 num] fun r => r = .ret (.sl (intsAV (usersP d num))) := by
  refine FnP.introM Tryz.func16 rfl rfl (by simp [Tryz.ntmps16]) (by rintro q rfl; exact ⟨_, rfl⟩) ?_
  intro B_
  simp only [argEnv, Tryz.ntmps16, Tryz.results16]
  have hbk : d.bulk = ibulk d.items + d.trailer.bulk := rfl
  refine AWT.rS ?_
  refine AWT.rSC ?_
  by_cases hv : docE d = 0
  · refine OpsT.cN [] (FnT.ofH (h_graph_of _ d hv h)) ?_
    refine OpsT.rn ?_
    refine OpsT.nil ?_
    refine AWT.seq ?_
    refine AWT.rSC ?_
    refine OpsT.cs (awGuard.lkM (keyOk_int .i64) Itm.zero zero_itm rfl ?_)
    refine OpsT.rn ?_
    refine OpsT.nil ?_
    refine AWT.rS ?_
    refine AWT.c2 ?_ ?_
    · intro h31
      have ht : thereB d num = false := by simpa [thereB] using h31
      refine AWT.rS ?_
      refine AWT.rt ?_
      rw [usersP, if_pos hv, ht]
      first | trivial | rfl
    · intro h31
      have ht : thereB d num = true := by simpa [thereB, Option.isSome_iff_ne_none] using h31
      refine AWT.skip ?_
      refine AWT.rSC ?_
      refine OpsT.cs (awGuard.mkS (keyOk_int .i64) ?_)
      refine OpsT.rn ?_
      refine OpsT.nil ?_
      refine AWT.seq ?_
      refine AWT.rSC ?_
      refine OpsT.cN [] (FnT.ofH (h_graph_all _ d)) ?_
      refine OpsT.rn ?_
      refine OpsT.nil ?_
      refine AWT.block ?_
      refine AWT.rU [3, 2, 1, 6, 5, 7] [] [(5, .ptr 0 0), (3, .ptr 2 0), (9, .ptr 3 0)] (fun j h k => j = none ∧ (∃ rl lq, h = [(0, .cells [.map 1]), (1, mapOf KI VI (netL d.items)), (2, .cells [.int .i64 num]), (3, .cells [.map 4]), (4, setOf (fun n => AV.int .i64 n) (usersS d num)), (5, .cells (Dc.cells d)), (6, .lp lq rl)]) ∧ k = 7) (xs := [.ptr 5 0]) (hp0 := [(0, .cells [.map 1]), (1, mapOf KI VI (netL d.items)), (2, .cells [.int .i64 num]), (3, .cells [.map 4]), (4, setOf (fun n => AV.int .i64 n) []), (5, .cells (Dc.cells d))]) ?_ ?_
      · intro Ω _ lq rb rc hr
        refine (au_all gl d d.items num (usersAll d num) (fun _ => True) (fun _ _ _ _ _ => trivial) lq rc (fun s n o _ hm => ?_) [] trivial h).mono (fun q hp nx hh => ⟨⟨_, hh.1⟩, none, by rw [hh.2.1]; rfl, rfl, ⟨_, _, hh.2.1⟩, hh.2.2⟩)
        have ho : o.bulk ≤ 16777216 := allL_bulk hm h
        refine hr [_, _] _ 7 _ rfl rfl ?_
        refine AWT.rS ?_
        refine AWT.rL ?_
        refine ⟨rfl, rfl, ?_⟩
        refine AWT.block ?_
        refine AWT.rSC ?_
        refine OpsT.cN [] (FnT.ofH (h_graph_refs _ o)) ?_
        refine OpsT.rn ?_
        refine OpsT.nil ?_
        refine AWT.block ?_
        refine AWT.rUI [0, 1, 2, 3, 4, 7, 9] [] [(5, .ptr 0 0), (3, .ptr 2 0), (9, .ptr 3 0), (10, .ptr 5 0)] (fun j h k => j = (if (walkR (usesStp d.items num n) s o.pre).2 then some (.exit 2) else none) ∧ (∃ rl lq, h = [(0, .cells [.map 1]), (1, mapOf KI VI (netL d.items)), (2, .cells [.int .i64 num]), (3, .cells [.map 4]), (4, setOf (fun n => AV.int .i64 n) (usersAll d num s n o)), (5, .cells [.int .i64 n]), (6, .cells (Pob.cells o)), (7, .lp lq rl)]) ∧ k = 8) (xs := [.ptr 6 0]) (hp0 := [(0, .cells [.map 1]), (1, mapOf KI VI (netL d.items)), (2, .cells [.int .i64 num]), (3, .cells [.map 4]), (4, setOf (fun n => AV.int .i64 n) s), (5, .cells [.int .i64 n]), (6, .cells (Pob.cells o))]) (k0 := 6) rfl ?_ ?_
        · intro Ω1 _ l1 rb1 rc1 hr1
          refine (wu_refs gl d.items num n o (usesStp d.items num n) (.exit 2) (fun _ => True) (fun _ _ _ => trivial) l1 rc1 (fun s1 o1 _ => ?_) s trivial ho).mono (fun q hp nx hh => ?_)
          · refine hr1 [_] _ 8 _ rfl rfl ?_
            refine AWT.rL ?_
            refine ⟨rfl, rfl, ?_⟩
            refine AWT.block ?_
            refine AWT.rSC ?_
            refine OpsT.cs (awGuard.c1 (c_graph_leads _ d.items o1) ?_)
            refine OpsT.rn ?_
            refine OpsT.nil ?_
            refine AWT.rS ?_
            refine AWT.c2 ?_ ?_
            · intro hl
              have hu : usesB d.items num o1 = true := by simpa [usesB] using hl
              refine AWT.rSC ?_
              refine OpsT.cs (awGuard.upS (keyOk_int .i64) ?_)
              refine OpsT.rn ?_
              refine OpsT.nil ?_
              refine AWT.exit ?_
              refine ⟨some (.exit 2), rfl, ⟨57, [], [(0, .cells [.map 1]), (1, mapOf KI VI (netL d.items)), (2, .cells [.int .i64 num]), (3, .cells [.map 4]), (4, setOf (fun n => AV.int .i64 n) (usesStp d.items num n s1 o1).1), (5, .cells [.int .i64 n]), (6, .cells (Pob.cells o)), (7, .lp l1 rb1)], 8, gl, 8, []⟩, ?_, rfl, by simp only [go_sem, seval], ?_⟩
              · refine St.le.vx [0, 1, 2, 3, 4, 5, 6, 7] (hpre := (by decide : ∀ i, i < 8 → nth [0, 1, 2, 3, 4, 5, 6, 7] i = some i)) ?_
                simp [usesStp, hu]
              · refine ⟨by simp [usesStp, hu], ?_, rfl⟩
                simp only [usesStp, hu, if_true]
                rfl
            · intro hl
              have hu : usesB d.items num o1 = false := by
                cases hb : usesB d.items num o1
                · rfl
                · exfalso
                  simp [usesB] at hb
                  simp [hb.1, hb.2] at hl
              refine AWT.skip ?_
              refine ⟨none, rfl, ⟨57, [], [(0, .cells [.map 1]), (1, mapOf KI VI (netL d.items)), (2, .cells [.int .i64 num]), (3, .cells [.map 4]), (4, setOf (fun n => AV.int .i64 n) (usesStp d.items num n s1 o1).1), (5, .cells [.int .i64 n]), (6, .cells (Pob.cells o)), (7, .lp l1 rb1)], 8, gl, 8, []⟩, ?_, rfl, by simp only [go_sem, seval], ?_⟩
              · refine St.le.vx [0, 1, 2, 3, 4, 5, 6, 7] (hpre := (by decide : ∀ i, i < 8 → nth [0, 1, 2, 3, 4, 5, 6, 7] i = some i)) ?_
                simp [usesStp, hu]
              · refine ⟨by simp [usesStp, hu], ?_, rfl⟩
                simp only [usesStp, hu, Bool.false_eq_true, if_false]
                rfl
          · refine ⟨⟨_, hh.1⟩, _, ?_, rfl, ⟨_, _, hh.2.1⟩, hh.2.2⟩
            rw [hh.2.1]; rfl
        · rintro j hp' nx' ⟨rfl, ⟨rl, l1, rfl⟩, rfl⟩
          refine ⟨by simp only [go_sem, seval], ?_⟩
          cases hst : (walkR (usesStp d.items num n) s o.pre).2
          · refine ⟨none, rfl, ⟨57, [], [(0, .cells [.map 1]), (1, mapOf KI VI (netL d.items)), (2, .cells [.int .i64 num]), (3, .cells [.map 4]), (4, setOf (fun n => AV.int .i64 n) (usersAll d num s n o)), (5, .cells (Dc.cells d)), (6, .lp lq rb)], 7, gl, 7, []⟩, ?_, rfl, by simp only [go_sem, seval], rfl, rfl, rfl⟩
            refine St.le.vw [0, 1, 2, 3, 4, 5, 6] (hpre := (by decide : ∀ i, i < 7 → nth [0, 1, 2, 3, 4, 5, 6] i = some i))
          · refine AWT.exit ?_
            refine ⟨none, rfl, ⟨57, [], [(0, .cells [.map 1]), (1, mapOf KI VI (netL d.items)), (2, .cells [.int .i64 num]), (3, .cells [.map 4]), (4, setOf (fun n => AV.int .i64 n) (usersAll d num s n o)), (5, .cells (Dc.cells d)), (6, .lp lq rb)], 7, gl, 7, []⟩, ?_, rfl, by simp only [go_sem, seval], rfl, rfl, rfl⟩
            refine St.le.vw [0, 1, 2, 3, 4, 5, 6] (hpre := (by decide : ∀ i, i < 7 → nth [0, 1, 2, 3, 4, 5, 6] i = some i))
      · rintro j hp' nx' ⟨rfl, ⟨rl, l1, rfl⟩, rfl⟩
        refine ⟨by simp only [go_sem, seval], ?_⟩
        refine AWT.rSC ?_
        refine OpsT.cN [5] (h_graph_rising _ (usersS d num) (fun x hx => litwf0 (usersS_wf hv num x hx)) (Nat.le_trans (usersS_len d num) h)) ?_
        refine OpsT.rn ?_
        refine OpsT.nil ?_
        refine AWT.rt ?_
        rw [usersP, if_pos hv, ht]
        first | trivial | rfl
  · refine OpsT.cs (awGuard.c1 (c_graph_of_bad _ d hv h) ?_)
    refine OpsT.rn ?_
    refine OpsT.nil ?_
    refine AWT.seq ?_
    refine AWT.rSC ?_
    refine OpsT.cs (awGuard.lkN (keyOk_int .i64) Itm.zero zero_itm rfl ?_)
    refine OpsT.rn ?_
    refine OpsT.nil ?_
    refine AWT.rS ?_
    refine AWT.c2 ?_ ?_
    · intro _
      refine AWT.rS ?_
      refine AWT.rt ?_
      rw [usersP, if_neg hv]
      first | trivial | rfl
    · intro h31
      simp at h31
end Go.Proofs

namespace Aw
open Go
theorem chk_ref {o : Pob} {k : Int} (h : chk o k = 0) (h8 : o.kind = 8) : o.kids = [] := by
  have hu := (ownE_iff.1 (chk_iff.1 h).1).2.1
  have h2 : uKids o.kind = false := by rw [h8]; decide
  rcases hl : o.kids with _ | ⟨x, l⟩
  · rfl
  · exfalso
    simp [useB, h2, hl] at hu
    omega
mutual
theorem chk_rr : ∀ (o : Pob) (d : Int), chk o d = 0 → o.rr = o.pre.filter fun p => decide (p.kind = 8)
  | .mk k n g s ks l, d, h => by
    rw [Pob.pre_eq, rr_eq]
    by_cases h8 : (Pob.mk k n g s ks l).kind = 8
    · have hk := chk_ref h h8
      rw [if_pos h8, List.filter_cons, if_pos (by rw [h8]; decide), hk, pres_nil]
      rfl
    · rw [if_neg h8, List.filter_cons, if_neg (by simpa using h8)]
      exact chks_rr l (d + 1) (fun x hx => (chk_iff.1 h).2 x hx)
theorem chks_rr : ∀ (l : List Pob) (d : Int), (∀ x ∈ l, chk x d = 0) → rrs l = (pres l).filter fun p => decide (p.kind = 8)
  | [], _, _ => by simp [rrs, pres_nil]
  | o :: l, d, h => by
    rw [rrs, pres, List.filter_append, ← chk_rr o d (h o List.mem_cons_self), ← chks_rr l d (fun x hx => h x (List.mem_cons_of_mem _ hx))]
end
theorem leadR_yes {l : List Itm} (hl : incrN l) {r : Pob} (h : leadB l r = true) : leadR l r = some (leadI l r) := by
  obtain ⟨h1, h2, h3⟩ := lead_mem h
  cases e : leadR l r with
  | none =>
    unfold leadR at e
    rw [List.find?_eq_none] at e
    have := e _ h1
    simp [h2, h3] at this
  | some x =>
    obtain ⟨g1, g2, _⟩ := leadR_mem e
    rw [incr_one hl g1 h1 (by rw [g2, h2])]
theorem leadR_no {l : List Itm} (hl : incrN l) {r : Pob} (h : leadB l r = false) : leadR l r = none := by
  cases e : leadR l r with
  | none => rfl
  | some x =>
    exfalso
    obtain ⟨g1, g2, g3⟩ := leadR_mem e
    cases hm : mfind (netL l) r.num with
    | none =>
      rw [mfind_none] at hm
      refine hm ?_
      rw [← g2]
      simp only [netL, List.map_map, List.mem_map]
      exact ⟨x, g1, rfl⟩
    | some v =>
      have hv := mfind_mem hm
      simp only [netL, List.mem_map, Prod.mk.injEq] at hv
      obtain ⟨y, hy, e1, rfl⟩ := hv
      have : y = x := incr_one hl hy g1 (by rw [e1, g2])
      subst this
      simp [leadB, leadI, hm, g3] at h
theorem leadR_isSome {l : List Itm} (hl : incrN l) (r : Pob) : (leadR l r).isSome = leadB l r := by
  cases h : leadB l r
  · rw [leadR_no hl h]; rfl
  · rw [leadR_yes hl h]; rfl
theorem sortI_mem {s : List Int} {n : Int} : n ∈ sortI s ↔ n ∈ s := (List.mergeSort_perm s _).mem_iff
theorem sortI_lt {s : List Int} (h : s.Nodup) : (sortI s).Pairwise (· < ·) := by
  have h2 : (sortI s).Nodup := (List.mergeSort_perm _ _).nodup_iff.2 h
  exact (List.Pairwise.and (sortI_pairwise s) h2).imp fun ⟨a, b⟩ => by omega
theorem FromJ.perm {l : List Itm} {start : List Pob} {met : List Int} {a b : List Pob} (h : FromJ l start met a) (hp : a.Perm b) : FromJ l start met b :=
  ⟨h.nd, h.sub, fun r hr => (h.st r hr).imp id (fun g => hp.mem_iff.1 g), fun i hi hm r hr => (h.it i hi hm r hr).imp id (fun g => hp.mem_iff.1 g), fun s' hs => ⟨(h.least s' hs).1, fun r hr => (h.least s' hs).2 r (hp.mem_iff.2 hr)⟩, by rw [← hp.length_eq]; exact h.small⟩
theorem walk_fold (l : List Itm) : ∀ (L : List Pob) (s : List Int × List Pob), (walkR (reachStp l) s L).1 = (L.filter fun p => decide (p.kind = 8)).foldl (fun s r => (reachStp l s r).1) s
  | [], s => rfl
  | o :: L, s => by
    rw [walkR_cons, List.filter_cons]
    by_cases hk : o.kind = 8
    · rw [if_pos hk, if_neg (by rw [reach_last]; simp), if_pos (by simpa using hk), List.foldl_cons]
      exact walk_fold l L _
    · rw [if_neg hk, if_neg (by simpa using hk)]
      exact walk_fold l L s
theorem rrs_one (o : Pob) : rrs [o] = o.rr := by simp [rrs]
theorem fold_J {l : List Itm} {start : List Pob} (hl : incrN l) : ∀ (L : List Pob) (s : List Int × List Pob), FromJ l start s.1 (L ++ rrs s.2) →
    FromJ l start (L.foldl (fun s r => (reachStp l s r).1) s).1 (rrs (L.foldl (fun s r => (reachStp l s r).1) s).2)
  | [], s, h => h
  | r :: L, s, h => by
    rw [List.foldl_cons]
    refine fold_J hl L _ ?_
    simp only [reachStp]
    cases hb : reachB l s.1 r
    · simp only [Bool.false_eq_true, if_false]
      refine h.skip (fun i hi => ?_)
      simp only [reachB, Bool.and_eq_false_iff, Bool.not_eq_false', decide_eq_true_eq] at hb
      rcases hb with hb | hb
      · rw [leadR_no hl hb] at hi
        cases hi
      · cases hlb : leadB l r
        · rw [leadR_no hl hlb] at hi
          cases hi
        · rw [leadR_yes hl hlb] at hi
          injection hi with hi
          rw [← hi]
          exact hb
    · simp only [if_true]
      simp only [reachB, Bool.and_eq_true, Bool.not_eq_true', decide_eq_false_iff_not] at hb
      have := h.add hl (leadR_yes hl hb.1) hb.2
      rw [setAdd, if_neg hb.2, rrs_append, rrs_one, ← List.append_assoc]
      exact this
theorem pop_J {l : List Itm} {start : List Pob} (hl : incrN l) {s : List Int × List Pob} (h : FromJ l start s.1 (rrs s.2)) (hn : 0 < s.2.length) (hv : ∀ p ∈ s.2, ∃ k, chk p k = 0) :
    FromJ l start (popS l s).1 (rrs (popS l s).2) := by
  unfold popS
  rw [walk_fold]
  have hm : s.2.getD (s.2.length - 1) Pob.null ∈ s.2 := by
    rw [List.getD_eq_getElem?_getD, List.getElem?_eq_getElem (by omega)]
    exact List.getElem_mem _
  obtain ⟨k, hk⟩ := hv _ hm
  rw [← chk_rr _ k hk]
  refine fold_J hl _ _ ?_
  have e : rrs s.2 = rrs (s.2.take (s.2.length - 1)) ++ (s.2.getD (s.2.length - 1) Pob.null).rr := by
    rw [← rrs_take (l := s.2) (i := s.2.length - 1) (by omega), List.take_of_length_le (by omega)]
  rw [e] at h
  exact h.perm List.perm_append_comm
theorem fold_V {l : List Itm} (hv : ∀ i ∈ l, ∃ k, chk i.obj k = 0) : ∀ (L : List Pob) (s : List Int × List Pob), (∀ p ∈ s.2, ∃ k, chk p k = 0) → ∀ p ∈ (L.foldl (fun s r => (reachStp l s r).1) s).2, ∃ k, chk p k = 0
  | [], s, h => h
  | r :: L, s, h => by
    rw [List.foldl_cons]
    refine fold_V hv L _ ?_
    simp only [reachStp]
    split
    · rename_i hb
      simp only [reachB, Bool.and_eq_true] at hb
      intro p hp
      rcases List.mem_append.1 hp with hp | hp
      · exact h p hp
      · simp only [List.mem_singleton] at hp
        subst hp
        exact hv _ (lead_mem hb.1).1
    · exact h
theorem reachF_least {l : List Itm} {start : List Pob} (hl : incrN l) (hv : ∀ i ∈ l, ∃ k, chk i.obj k = 0) : ∀ (f : Nat) (s : List Int × List Pob), reachI l s → reachM l s ≤ f → FromJ l start s.1 (rrs s.2) → (∀ p ∈ s.2, ∃ k, chk p k = 0) → leastR l start (reachF l f s)
  | 0, s, hi, hf, h, _ => by
    have h0 : s.2 = [] := by
      simp only [reachM] at hf
      exact List.eq_nil_of_length_eq_zero (by omega)
    rw [h0] at h
    exact FromJ.end h
  | f + 1, s, hi, hf, h, hs => by
    simp only [reachF]
    by_cases hn : 0 < s.2.length
    · rw [if_pos hn]
      refine reachF_least hl hv f _ (popS_inv hi) (by have := popS_M hi hn; omega) (pop_J hl h hn hs) ?_
      unfold popS
      rw [walk_fold]
      exact fold_V hv _ _ (fun p hp => hs p (List.mem_of_mem_take hp))
    · rw [if_neg hn]
      have h0 : s.2 = [] := List.eq_nil_of_length_eq_zero (by omega)
      rw [h0] at h
      exact FromJ.end h
theorem items_chk {d : Dc} (h : docE d = 0) : ∀ i ∈ d.items, ∃ k, chk i.obj k = 0 := fun i hi => doc_chk h (i.num, i.obj) (List.mem_cons_of_mem _ (List.mem_map.2 ⟨i, hi, rfl⟩))
theorem reachS_least {d : Dc} {o : Pob} (h : docE d = 0) {k : Int} (hc : chk o k = 0) (hs : o.rr.length + ibulk d.items ≤ 33554432) : leastR d.items o.rr (reachS d.items o) := by
  unfold reachS
  refine reachF_least (items_incr (docE_items h)) (items_chk h) _ _ (reachI_top _ _) (by simp [reachM]) ?_ (fun p hp => ⟨k, by simp only [List.mem_singleton] at hp; rw [hp]; exact hc⟩)
  rw [rrs_one]
  exact FromJ.top _ _ hs
theorem from_one {d : Dc} {o : Pob} (hs : o.rr.length + ibulk d.items ≤ 33554432) (h : docE d = 0) (hc : chk o 1 = 0) (met : List Int) (hm : leastR d.items o.rr met) : met.foldl numIns [] = fromP d o := by
  rw [fromP, if_pos ⟨h, hc⟩]
  obtain ⟨h1, h2⟩ := numIns_fold met [] List.Pairwise.nil
  refine lt_ext h1 (sortI_lt (reachS_inv d.items o).1) (fun n => ?_)
  rw [h2, sortI_mem, leastR_one hm (reachS_least h hc hs)]
  simp
end Aw
