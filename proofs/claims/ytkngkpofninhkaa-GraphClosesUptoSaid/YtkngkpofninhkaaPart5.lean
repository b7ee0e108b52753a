/- A part of the proof of a law of the seat: no condition of its own. -/
import Derived.Test.YtkngkpofninhkaaPart4
namespace Go.Proofs
open Go Aw
set_option linter.unusedSimpArgs false
set_option linter.unusedVariables false
set_option maxRecDepth 100000
set_option maxHeartbeats 2000000

end Go.Proofs

namespace Go.Proofs
open Go Aw
set_option linter.unusedSimpArgs false
set_option linter.unusedVariables false
set_option maxRecDepth 100000
set_option maxHeartbeats 2000000
attribute [local go_sem] app1_objsAV
end Go.Proofs

namespace Go.Proofs
open Go Aw
set_option linter.unusedSimpArgs false
set_option linter.unusedVariables false
set_option maxRecDepth 100000
set_option maxHeartbeats 2000000
attribute [local go_sem] app1_objsAV
end Go.Proofs

namespace Go.Proofs
open Go Aw
set_option linter.unusedSimpArgs false
set_option linter.unusedVariables false
set_option maxRecDepth 100000
set_option maxHeartbeats 2000000
attribute [local go_sem] app1_objsAV
theorem kidR_zero (l : List Pob) (s : List Int) : kidR (l.take 0) s = s := rfl
theorem intsAV_one (n : Int) : intsAV [n] = [[.int .i64 n]] := rfl
attribute [local go_sem] kidR_zero intsAV_one
end Go.Proofs

namespace Go.Proofs
open Go Aw
set_option linter.unusedSimpArgs false
set_option linter.unusedVariables false
set_option maxRecDepth 100000
set_option maxHeartbeats 2000000
attribute [local go_sem] app1_objsAV
end Go.Proofs

namespace Go.Proofs
open Go Aw
set_option linter.unusedSimpArgs false
set_option linter.unusedVariables false
set_option maxRecDepth 100000
set_option maxHeartbeats 2000000
attribute [local go_sem] app1_objsAV
end Go.Proofs

namespace Aw
open Go
def usesR (d : Dc) (num : Int) (o : Pob) : Bool := o.rr.any fun x => (leadR d.items x).isSome && decide (((leadR d.items x).getD Itm.zero).num = num)
def userL (d : Dc) (num : Int) (l : List Itm) : List Int := (l.filter fun i => usesR d num i.obj).map (·.num)
def lostI (met : List Int) (l : List Itm) : List Int := (l.filter fun i => !decide (i.num ∈ met)).map (·.num)
def dangI (d : Dc) (l : List Pob) : List Int := (l.filter fun x => !(leadR d.items x).isSome).map (·.num)
theorem any_take {α : Type} {l : List α} {i : Nat} {d : α} {p : α → Bool} (h : i < l.length) : (l.take (i + 1)).any p = ((l.take i).any p || p (l.getD i d)) := by
  rw [List.take_add_one, List.getElem?_eq_getElem h, List.any_append]
  simp [List.getD, List.getElem?_eq_getElem h]
end Aw

namespace Aw
open Go
end Aw

namespace Aw
open Go
end Aw

set_option linter.unusedVariables false
set_option linter.unusedSimpArgs false
namespace Aw
open Go
end Aw

namespace Go.Proofs
open Go Aw
set_option linter.unusedSimpArgs false
set_option linter.unusedVariables false
set_option maxRecDepth 100000
set_option maxHeartbeats 2000000
attribute [local go_sem] app1_objsAV
end Go.Proofs

namespace Go.Proofs
open Go Aw
set_option linter.unusedSimpArgs false
set_option linter.unusedVariables false
set_option maxRecDepth 100000
set_option maxHeartbeats 2000000
attribute [local go_sem] app1_objsAV
theorem userL_nil (d : Dc) (n : Int) : userL d n [] = [] := rfl
attribute [local go_sem] userL_nil
end Go.Proofs

namespace Go.Proofs
open Go Aw
set_option linter.unusedSimpArgs false
set_option linter.unusedVariables false
set_option maxRecDepth 100000
set_option maxHeartbeats 4000000
attribute [local go_sem] app1_objsAV
end Go.Proofs

namespace Aw
open Go
def inS (l : List Itm) (s : List Int) (r : Pob) : Prop := ∀ i, leadR l r = some i → i.num ∈ s
/-- a set that holds all that is led to -/
def closedR (l : List Itm) (start : List Pob) (s : List Int) : Prop := (∀ r ∈ start, inS l s r) ∧ ∀ i ∈ l, i.num ∈ s → ∀ r ∈ i.obj.rr, inS l s r
def leastR (l : List Itm) (start : List Pob) (s : List Int) : Prop := closedR l start s ∧ ∀ s', closedR l start s' → ∀ n ∈ s, n ∈ s'
def restR (l : List Itm) (met : List Int) : Nat := ((l.filter fun i => !decide (i.num ∈ met)).map fun i => i.obj.rr.length).sum
theorem restR_cons (x : Itm) (l : List Itm) (met : List Int) : restR (x :: l) met = (if x.num ∈ met then 0 else x.obj.rr.length) + restR l met := by
  unfold restR
  rw [List.filter_cons]
  by_cases h : x.num ∈ met <;> simp [h]
theorem restR_more (l : List Itm) (met : List Int) (n : Int) : restR l (met ++ [n]) ≤ restR l met := by
  induction l with
  | nil => simp [restR]
  | cons x l ih =>
    rw [restR_cons, restR_cons]
    by_cases h : x.num ∈ met
    · rw [if_pos (List.mem_append_left _ h), if_pos h]
      omega
    · rw [if_neg h]
      split <;> omega
theorem restR_add {l : List Itm} {met : List Int} {i : Itm} (hi : i ∈ l) (hn : ¬ i.num ∈ met) : restR l (met ++ [i.num]) + i.obj.rr.length ≤ restR l met := by
  induction l with
  | nil => cases hi
  | cons x l ih =>
    rw [restR_cons, restR_cons]
    rcases List.mem_cons.1 hi with rfl | hi
    · have := restR_more l met i.num
      rw [if_pos (by simp), if_neg hn]
      omega
    · have := ih hi
      by_cases h : x.num ∈ met
      · rw [if_pos (List.mem_append_left _ h), if_pos h]
        omega
      · rw [if_neg h]
        split <;> omega
theorem restR_le (l : List Itm) (met : List Int) : restR l met ≤ ibulk l := by
  induction l with
  | nil => simp [restR]
  | cons x l ih =>
    have := rr_len x.obj
    rw [restR_cons, ibulk_cons]
    split <;> omega
/-- in the midst of the search -/
structure FromJ (l : List Itm) (start : List Pob) (met : List Int) (todo : List Pob) : Prop where
  nd : met.Nodup
  sub : ∀ n ∈ met, n ∈ l.map (·.num)
  st : ∀ r ∈ start, inS l met r ∨ r ∈ todo
  it : ∀ i ∈ l, i.num ∈ met → ∀ r ∈ i.obj.rr, inS l met r ∨ r ∈ todo
  least : ∀ s', closedR l start s' → (∀ n ∈ met, n ∈ s') ∧ ∀ r ∈ todo, inS l s' r
  small : todo.length + restR l met ≤ 33554432
theorem leadR_mem {l : List Itm} {r : Pob} {i : Itm} (h : leadR l r = some i) : i ∈ l ∧ i.num = r.num ∧ i.gen = r.gen := by
  have h1 := List.mem_of_find?_eq_some h
  have h2 := List.find?_some h
  simp only [Bool.and_eq_true, decide_eq_true_eq] at h2
  exact ⟨h1, h2⟩
theorem FromJ.top (l : List Itm) (o : Pob) (h : o.rr.length + ibulk l ≤ 33554432) : FromJ l o.rr [] o.rr :=
  ⟨List.nodup_nil, fun _ h => absurd h List.not_mem_nil, fun _ h => .inr h, fun _ _ h => absurd h List.not_mem_nil, fun _ hs => ⟨fun _ h => absurd h List.not_mem_nil, hs.1⟩, by
    have := restR_le l []
    omega⟩
theorem FromJ.skip {l : List Itm} {start : List Pob} {met : List Int} {x : Pob} {todo : List Pob} (h : FromJ l start met (x :: todo)) (hx : inS l met x) : FromJ l start met todo := by
  refine ⟨h.nd, h.sub, fun r hr => ?_, fun i hi hm r hr => ?_, fun s' hs => ⟨(h.least s' hs).1, fun r hr => (h.least s' hs).2 r (List.mem_cons_of_mem _ hr)⟩, by have := h.small; simp only [List.length_cons] at this; omega⟩
  · rcases h.st r hr with g | g
    · exact .inl g
    · rcases List.mem_cons.1 g with rfl | g
      · exact .inl hx
      · exact .inr g
  · rcases h.it i hi hm r hr with g | g
    · exact .inl g
    · rcases List.mem_cons.1 g with rfl | g
      · exact .inl hx
      · exact .inr g
theorem inS_more {l : List Itm} {s : List Int} {r : Pob} (h : inS l s r) (n : Int) : inS l (s ++ [n]) r := fun i hi => List.mem_append_left _ (h i hi)
theorem FromJ.add {l : List Itm} {start : List Pob} {met : List Int} {x : Pob} {todo : List Pob} {i : Itm} (hl : incrN l) (h : FromJ l start met (x :: todo)) (hx : leadR l x = some i) (hn : ¬ i.num ∈ met) : FromJ l start (met ++ [i.num]) (todo ++ i.obj.rr) := by
  have hm := (leadR_mem hx).1
  have hin : inS l (met ++ [i.num]) x := fun j hj => by
    rw [hx] at hj
    injection hj with hj
    subst hj
    simp
  refine ⟨?_, fun n hn' => ?_, fun r hr => ?_, fun j hj hm' r hr => ?_, fun s' hs => ?_, ?_⟩
  · rw [List.nodup_append]
    refine ⟨h.nd, by simp, fun a ha b hb => ?_⟩
    simp only [List.mem_singleton] at hb
    subst hb
    intro e
    subst e
    exact hn ha
  · rcases List.mem_append.1 hn' with g | g
    · exact h.sub n g
    · simp only [List.mem_singleton] at g
      subst g
      exact List.mem_map.2 ⟨i, hm, rfl⟩
  · rcases h.st r hr with g | g
    · exact .inl (inS_more g _)
    · rcases List.mem_cons.1 g with rfl | g
      · exact .inl hin
      · exact .inr (List.mem_append_left _ g)
  · rcases List.mem_append.1 hm' with g | g
    · rcases h.it j hj g r hr with g | g
      · exact .inl (inS_more g _)
      · rcases List.mem_cons.1 g with rfl | g
        · exact .inl hin
        · exact .inr (List.mem_append_left _ g)
    · simp only [List.mem_singleton] at g
      have e : j = i := incr_one hl hj hm g
      subst e
      exact .inr (List.mem_append_right _ hr)
  · obtain ⟨h1, h2⟩ := h.least s' hs
    have hi : i.num ∈ s' := h2 x List.mem_cons_self i hx
    refine ⟨fun n hn' => ?_, fun r hr => ?_⟩
    · rcases List.mem_append.1 hn' with g | g
      · exact h1 n g
      · simp only [List.mem_singleton] at g
        subst g
        exact hi
    · rcases List.mem_append.1 hr with g | g
      · exact h2 r (List.mem_cons_of_mem _ g)
      · exact hs.2 i hm hi r g
  · have h1 := h.small
    have h2 := restR_add hm hn
    simp only [List.length_cons, List.length_append] at h1 ⊢
    omega
theorem FromJ.end {l : List Itm} {start : List Pob} {met : List Int} (h : FromJ l start met []) : leastR l start met :=
  ⟨⟨fun r hr => (h.st r hr).elim id (fun g => absurd g List.not_mem_nil), fun i hi hm r hr => (h.it i hi hm r hr).elim id (fun g => absurd g List.not_mem_nil)⟩, fun s' hs => (h.least s' hs).1⟩
theorem FromJ.len {l : List Itm} {start : List Pob} {met : List Int} {todo : List Pob} (h : FromJ l start met todo) : met.length ≤ l.length := by
  have := nodup_le h.nd h.sub
  simpa using this
end Aw

namespace Go.Proofs
open Go Aw
set_option linter.unusedSimpArgs false
set_option linter.unusedVariables false
set_option maxRecDepth 100000
set_option maxHeartbeats 4000000
attribute [local go_sem] app1_objsAV List.length_append List.length_cons List.length_nil List.length_drop List.length_take Nat.sub_zero
end Go.Proofs

namespace Go.Proofs
open Go Aw
set_option linter.unusedSimpArgs false
set_option linter.unusedVariables false
set_option maxRecDepth 100000
set_option maxHeartbeats 4000000
attribute [local go_sem] app1_objsAV
theorem lostI_nil (m : List Int) : lostI m [] = [] := rfl
attribute [local go_sem] lostI_nil
end Go.Proofs

namespace Go.Proofs
open Go Aw
set_option linter.unusedSimpArgs false
set_option linter.unusedVariables false
set_option maxRecDepth 100000
set_option maxHeartbeats 4000000
attribute [local go_sem] app1_objsAV
theorem dangI_nil (d : Dc) : dangI d [] = [] := rfl
attribute [local go_sem] dangI_nil List.length_append
end Go.Proofs

namespace Go.Proofs
open Go Aw
set_option linter.unusedSimpArgs false
set_option linter.unusedVariables false
set_option maxRecDepth 100000
set_option maxHeartbeats 1000000
attribute [local go_sem ↓ high] noTBm_net
attribute [local go_sem] mres netL_nil
theorem c_graph_Dangling (gl : List (Nat × AV)) (d : Dc) (h : d.bulk ≤ 16777216) : FnP Try.prog gl 16 [.agg d.cells] fun r => r = .ret (.sl (intsAV (danglingP d))) := by
  refine FnP.introM Try.func16 rfl rfl (by simp [Try.ntmps16]) (by rintro q rfl; exact ⟨_, rfl⟩) ?_
  intro B_
  simp only [argEnv, Try.ntmps16, Try.results16]
  have hbk : d.bulk = ibulk d.items + d.trailer.bulk := rfl
  refine AWT.rS ?_
  refine AWT.rSC ?_
  by_cases hv : docE d = 0
  · refine OpsT.cN [] (FnT.ofH (h_graph_of _ d hv h)) ?_
    refine OpsT.rn ?_
    refine OpsT.nil ?_
    refine AWT.seq ?_
    refine AWT.rS ?_
    refine AWT.c2 ?_ ?_
    · intro h17
      simp at h17
    · intro _
      refine AWT.skip ?_
      refine AWT.rSC ?_
      refine OpsT.cs (awGuard.mkS (keyOk_int .i64) ?_)
      refine OpsT.rn ?_
      refine OpsT.nil ?_
      refine AWT.seq ?_
      refine AWT.rSC ?_
      refine OpsT.cN [] (FnT.ofH (h_graph_all _ d)) ?_
      refine OpsT.rn ?_
      refine OpsT.nil ?_
      refine AWT.block ?_
      refine AWT.rU [2, 1, 4, 3, 5] [] [(3, .ptr 0 0), (5, .ptr 2 0)] (fun j h k => j = none ∧ (∃ rl lq, h = [(0, .cells [.map 1]), (1, mapOf KI VI (netL d.items)), (2, .cells [.map 3]), (3, setOf (fun n => AV.int .i64 n) (dangS d)), (4, .cells (Dc.cells d)), (5, .lp lq rl)]) ∧ k = 6) (xs := [.ptr 4 0]) (hp0 := [(0, .cells [.map 1]), (1, mapOf KI VI (netL d.items)), (2, .cells [.map 3]), (3, setOf (fun n => AV.int .i64 n) []), (4, .cells (Dc.cells d))]) ?_ ?_
      · intro Ω _ lq rb rc hr
        refine (ad_all gl d d.items (dangAll d) (fun _ => True) (fun _ _ _ _ _ => trivial) lq rc (fun s n o _ hm => ?_) [] trivial h).mono (fun q hp nx hh => ⟨⟨_, hh.1⟩, none, by rw [hh.2.1]; rfl, rfl, ⟨_, _, hh.2.1⟩, hh.2.2⟩)
        have ho : o.bulk ≤ 16777216 := allL_bulk hm h
        refine hr [_, _] _ 6 _ rfl rfl ?_
        refine AWT.rL ?_
        refine ⟨rfl, rfl, ?_⟩
        refine AWT.block ?_
        refine AWT.rSC ?_
        refine OpsT.cN [] (FnT.ofH (h_graph_refs _ o)) ?_
        refine OpsT.rn ?_
        refine OpsT.nil ?_
        refine AWT.block ?_
        refine AWT.rUI [0, 1, 2, 3, 7] [] [(3, .ptr 0 0), (5, .ptr 2 0)] (fun j h k => j = none ∧ (∃ rl lq, h = [(0, .cells [.map 1]), (1, mapOf KI VI (netL d.items)), (2, .cells [.map 3]), (3, setOf (fun n => AV.int .i64 n) (dangAll d s n o)), (4, .cells (Pob.cells o)), (5, .lp lq rl)]) ∧ k = 6) (xs := [.ptr 4 0]) (hp0 := [(0, .cells [.map 1]), (1, mapOf KI VI (netL d.items)), (2, .cells [.map 3]), (3, setOf (fun n => AV.int .i64 n) s), (4, .cells (Pob.cells o))]) (k0 := 5) rfl ?_ ?_
        · intro Ω1 _ l1 rb1 rc1 hr1
          refine (wd_refs gl d.items o (dangStp d.items) .skip (fun _ => True) (fun _ _ _ => trivial) l1 rc1 (fun s1 o1 _ => ?_) s trivial ho).mono (fun q hp nx hh => ?_)
          · refine hr1 [_] _ 6 _ rfl rfl ?_
            refine AWT.rL ?_
            refine ⟨rfl, rfl, ?_⟩
            refine AWT.block ?_
            refine AWT.rSC ?_
            refine OpsT.cs (awGuard.c1 (c_graph_leads _ d.items o1) ?_)
            refine OpsT.rn ?_
            refine OpsT.nil ?_
            refine AWT.rS ?_
            refine AWT.c2 ?_ ?_
            · intro hl
              refine AWT.rLC ?_
              refine OpsT.cs (awGuard.upS (keyOk_int .i64) ?_)
              refine OpsT.rn ?_
              refine OpsT.nil ?_
              refine ⟨none, rfl, ⟨39, [], [(0, .cells [.map 1]), (1, mapOf KI VI (netL d.items)), (2, .cells [.map 3]), (3, setOf (fun n => AV.int .i64 n) (dangStp d.items s1 o1).1), (4, .cells (Pob.cells o)), (5, .lp l1 rb1)], 6, gl, 6, []⟩, ?_, rfl, by simp only [go_sem, seval], rfl, rfl, rfl⟩
              refine St.le.vx [0, 1, 2, 3, 4, 5] (hpre := (by decide : ∀ i, i < 6 → nth [0, 1, 2, 3, 4, 5] i = some i)) ?_
              simp [dangStp, hl]
            · intro hl
              refine AWT.skip ?_
              refine ⟨none, rfl, ⟨39, [], [(0, .cells [.map 1]), (1, mapOf KI VI (netL d.items)), (2, .cells [.map 3]), (3, setOf (fun n => AV.int .i64 n) (dangStp d.items s1 o1).1), (4, .cells (Pob.cells o)), (5, .lp l1 rb1)], 6, gl, 6, []⟩, ?_, rfl, by simp only [go_sem, seval], rfl, rfl, rfl⟩
              refine St.le.vx [0, 1, 2, 3, 4, 5] (hpre := (by decide : ∀ i, i < 6 → nth [0, 1, 2, 3, 4, 5] i = some i)) ?_
              simp [dangStp, hl]
          · have hl := walkR_last (dang_last d.items) o.pre s
            refine ⟨⟨_, hh.1⟩, none, ?_, rfl, ?_, hh.2.2⟩
            · rw [hh.2.1, hl]; rfl
            · exact ⟨_, _, hh.2.1⟩
        · rintro j hp' nx' ⟨rfl, ⟨rl, l1, rfl⟩, rfl⟩
          refine ⟨by simp only [go_sem, seval], ?_⟩
          refine ⟨none, rfl, ⟨39, [], [(0, .cells [.map 1]), (1, mapOf KI VI (netL d.items)), (2, .cells [.map 3]), (3, setOf (fun n => AV.int .i64 n) (dangAll d s n o)), (4, .cells (Dc.cells d)), (5, .lp lq rb)], 6, gl, 6, []⟩, ?_, rfl, by simp only [go_sem, seval], rfl, rfl, rfl⟩
          refine St.le.vw [0, 1, 2, 3, 4, 5] (hpre := (by decide : ∀ i, i < 6 → nth [0, 1, 2, 3, 4, 5] i = some i))
      · rintro j hp' nx' ⟨rfl, ⟨rl, l1, rfl⟩, rfl⟩
        refine ⟨by simp only [go_sem, seval], ?_⟩
        refine AWT.rSC ?_
        refine OpsT.cN [3] (h_graph_rising _ (dangS d) (fun x hx => litwf (dangS_wf hv x hx)) (Nat.le_trans (dangS_len d) h)) ?_
        refine OpsT.rn ?_
        refine OpsT.nil ?_
        refine AWT.rt ?_
        rw [danglingP, if_pos hv]
  · refine OpsT.cs (awGuard.c1 (c_graph_of_bad _ d hv h) ?_)
    refine OpsT.rn ?_
    refine OpsT.nil ?_
    refine AWT.seq ?_
    refine AWT.rS ?_
    refine AWT.c2 ?_ ?_
    · intro _
      refine AWT.rS ?_
      refine AWT.rt ?_
      rw [danglingP, if_neg hv]
      first | trivial | rfl
    · intro h17
      simp at h17
end Go.Proofs

namespace Go.Proofs
open Go Aw
set_option linter.unusedSimpArgs false
set_option linter.unusedVariables false
set_option maxRecDepth 100000
set_option maxHeartbeats 1000000
attribute [local go_sem ↓ high] noTBm_net
attribute [local go_sem] mres netL_nil VI mfind
theorem c_graph_Users (gl : List (Nat × AV)) (d : Dc) (num : Int) (h : d.bulk ≤ 16777216) : FnP Try.prog gl 11 [.agg d.cells, .int .i64 num] fun r => r = .ret (.sl (intsAV (usersP d num))) := by
  refine FnP.introM Try.func11 rfl rfl (by simp [Try.ntmps11]) (by rintro q rfl; exact ⟨_, rfl⟩) ?_
  intro B_
  simp only [argEnv, Try.ntmps11, Try.results11]
  have hbk : d.bulk = ibulk d.items + d.trailer.bulk := rfl
  refine AWT.rS ?_
  refine AWT.rSC ?_
  by_cases hv : docE d = 0
  · refine OpsT.cN [] (FnT.ofH (h_graph_of _ d hv h)) ?_
    refine OpsT.rn ?_
    refine OpsT.nil ?_
    refine AWT.seq ?_
    refine AWT.rSC ?_
    refine OpsT.cs (awGuard.lkM (keyOk_int .i64) Itm.zero zero_itm rfl ?_)
    refine OpsT.rn ?_
    refine OpsT.nil ?_
    refine AWT.rS ?_
    refine AWT.c2 ?_ ?_
    · intro h31
      have ht : thereB d num = false := by simpa [thereB] using h31
      refine AWT.rS ?_
      refine AWT.rt ?_
      rw [usersP, if_pos hv, ht]
      first | trivial | rfl
    · intro h31
      have ht : thereB d num = true := by simpa [thereB, Option.isSome_iff_ne_none] using h31
      refine AWT.skip ?_
      refine AWT.rSC ?_
      refine OpsT.cs (awGuard.mkS (keyOk_int .i64) ?_)
      refine OpsT.rn ?_
      refine OpsT.nil ?_
      refine AWT.seq ?_
      refine AWT.rSC ?_
      refine OpsT.cN [] (FnT.ofH (h_graph_all _ d)) ?_
      refine OpsT.rn ?_
      refine OpsT.nil ?_
      refine AWT.block ?_
      refine AWT.rU [3, 2, 1, 6, 5, 7] [] [(5, .ptr 0 0), (3, .ptr 2 0), (9, .ptr 3 0)] (fun j h k => j = none ∧ (∃ rl lq, h = [(0, .cells [.map 1]), (1, mapOf KI VI (netL d.items)), (2, .cells [.int .i64 num]), (3, .cells [.map 4]), (4, setOf (fun n => AV.int .i64 n) (usersS d num)), (5, .cells (Dc.cells d)), (6, .lp lq rl)]) ∧ k = 7) (xs := [.ptr 5 0]) (hp0 := [(0, .cells [.map 1]), (1, mapOf KI VI (netL d.items)), (2, .cells [.int .i64 num]), (3, .cells [.map 4]), (4, setOf (fun n => AV.int .i64 n) []), (5, .cells (Dc.cells d))]) ?_ ?_
      · intro Ω _ lq rb rc hr
        refine (au_all gl d d.items num (usersAll d num) (fun _ => True) (fun _ _ _ _ _ => trivial) lq rc (fun s n o _ hm => ?_) [] trivial h).mono (fun q hp nx hh => ⟨⟨_, hh.1⟩, none, by rw [hh.2.1]; rfl, rfl, ⟨_, _, hh.2.1⟩, hh.2.2⟩)
        have ho : o.bulk ≤ 16777216 := allL_bulk hm h
        refine hr [_, _] _ 7 _ rfl rfl ?_
        refine AWT.rS ?_
        refine AWT.rL ?_
        refine ⟨rfl, rfl, ?_⟩
        refine AWT.block ?_
        refine AWT.rSC ?_
        refine OpsT.cN [] (FnT.ofH (h_graph_refs _ o)) ?_
        refine OpsT.rn ?_
        refine OpsT.nil ?_
        refine AWT.block ?_
        refine AWT.rUI [0, 1, 2, 3, 4, 7, 9] [] [(5, .ptr 0 0), (3, .ptr 2 0), (9, .ptr 3 0), (10, .ptr 5 0)] (fun j h k => j = (if (walkR (usesStp d.items num n) s o.pre).2 then some (.exit 2) else none) ∧ (∃ rl lq, h = [(0, .cells [.map 1]), (1, mapOf KI VI (netL d.items)), (2, .cells [.int .i64 num]), (3, .cells [.map 4]), (4, setOf (fun n => AV.int .i64 n) (usersAll d num s n o)), (5, .cells [.int .i64 n]), (6, .cells (Pob.cells o)), (7, .lp lq rl)]) ∧ k = 8) (xs := [.ptr 6 0]) (hp0 := [(0, .cells [.map 1]), (1, mapOf KI VI (netL d.items)), (2, .cells [.int .i64 num]), (3, .cells [.map 4]), (4, setOf (fun n => AV.int .i64 n) s), (5, .cells [.int .i64 n]), (6, .cells (Pob.cells o))]) (k0 := 6) rfl ?_ ?_
        · intro Ω1 _ l1 rb1 rc1 hr1
          refine (wu_refs gl d.items num n o (usesStp d.items num n) (.exit 2) (fun _ => True) (fun _ _ _ => trivial) l1 rc1 (fun s1 o1 _ => ?_) s trivial ho).mono (fun q hp nx hh => ?_)
          · refine hr1 [_] _ 8 _ rfl rfl ?_
            refine AWT.rL ?_
            refine ⟨rfl, rfl, ?_⟩
            refine AWT.block ?_
            refine AWT.rSC ?_
            refine OpsT.cs (awGuard.c1 (c_graph_leads _ d.items o1) ?_)
            refine OpsT.rn ?_
            refine OpsT.nil ?_
            refine AWT.rS ?_
            refine AWT.c2 ?_ ?_
            · intro hl
              have hu : usesB d.items num o1 = true := by simpa [usesB] using hl
              refine AWT.rSC ?_
              refine OpsT.cs (awGuard.upS (keyOk_int .i64) ?_)
              refine OpsT.rn ?_
              refine OpsT.nil ?_
              refine AWT.exit ?_
              refine ⟨some (.exit 2), rfl, ⟨57, [], [(0, .cells [.map 1]), (1, mapOf KI VI (netL d.items)), (2, .cells [.int .i64 num]), (3, .cells [.map 4]), (4, setOf (fun n => AV.int .i64 n) (usesStp d.items num n s1 o1).1), (5, .cells [.int .i64 n]), (6, .cells (Pob.cells o)), (7, .lp l1 rb1)], 8, gl, 8, []⟩, ?_, rfl, by simp only [go_sem, seval], ?_⟩
              · refine St.le.vx [0, 1, 2, 3, 4, 5, 6, 7] (hpre := (by decide : ∀ i, i < 8 → nth [0, 1, 2, 3, 4, 5, 6, 7] i = some i)) ?_
                simp [usesStp, hu]
              · refine ⟨by simp [usesStp, hu], ?_, rfl⟩
                simp only [usesStp, hu, if_true]
                rfl
            · intro hl
              have hu : usesB d.items num o1 = false := by
                cases hb : usesB d.items num o1
                · rfl
                · exfalso
                  simp [usesB] at hb
                  simp [hb.1, hb.2] at hl
              refine AWT.skip ?_
              refine ⟨none, rfl, ⟨57, [], [(0, .cells [.map 1]), (1, mapOf KI VI (netL d.items)), (2, .cells [.int .i64 num]), (3, .cells [.map 4]), (4, setOf (fun n => AV.int .i64 n) (usesStp d.items num n s1 o1).1), (5, .cells [.int .i64 n]), (6, .cells (Pob.cells o)), (7, .lp l1 rb1)], 8, gl, 8, []⟩, ?_, rfl, by simp only [go_sem, seval], ?_⟩
              · refine St.le.vx [0, 1, 2, 3, 4, 5, 6, 7] (hpre := (by decide : ∀ i, i < 8 → nth [0, 1, 2, 3, 4, 5, 6, 7] i = some i)) ?_
                simp [usesStp, hu]
              · refine ⟨by simp [usesStp, hu], ?_, rfl⟩
                simp only [usesStp, hu, Bool.false_eq_true, if_false]
                rfl
          · refine ⟨⟨_, hh.1⟩, _, ?_, rfl, ⟨_, _, hh.2.1⟩, hh.2.2⟩
            rw [hh.2.1]; rfl
        · rintro j hp' nx' ⟨rfl, ⟨rl, l1, rfl⟩, rfl⟩
          refine ⟨by simp only [go_sem, seval], ?_⟩
          cases hst : (walkR (usesStp d.items num n) s o.pre).2
          · refine ⟨none, rfl, ⟨57, [], [(0, .cells [.map 1]), (1, mapOf KI VI (netL d.items)), (2, .cells [.int .i64 num]), (3, .cells [.map 4]), (4, setOf (fun n => AV.int .i64 n) (usersAll d num s n o)), (5, .cells (Dc.cells d)), (6, .lp lq rb)], 7, gl, 7, []⟩, ?_, rfl, by simp only [go_sem, seval], rfl, rfl, rfl⟩
            refine St.le.vw [0, 1, 2, 3, 4, 5, 6] (hpre := (by decide : ∀ i, i < 7 → nth [0, 1, 2, 3, 4, 5, 6] i = some i))
          · refine AWT.exit ?_
            refine ⟨none, rfl, ⟨57, [], [(0, .cells [.map 1]), (1, mapOf KI VI (netL d.items)), (2, .cells [.int .i64 num]), (3, .cells [.map 4]), (4, setOf (fun n => AV.int .i64 n) (usersAll d num s n o)), (5, .cells (Dc.cells d)), (6, .lp lq rb)], 7, gl, 7, []⟩, ?_, rfl, by simp only [go_sem, seval], rfl, rfl, rfl⟩
            refine St.le.vw [0, 1, 2, 3, 4, 5, 6] (hpre := (by decide : ∀ i, i < 7 → nth [0, 1, 2, 3, 4, 5, 6] i = some i))
      · rintro j hp' nx' ⟨rfl, ⟨rl, l1, rfl⟩, rfl⟩
        refine ⟨by simp only [go_sem, seval], ?_⟩
        refine AWT.rSC ?_
        refine OpsT.cN [5] (h_graph_rising _ (usersS d num) (fun x hx => litwf0 (usersS_wf hv num x hx)) (Nat.le_trans (usersS_len d num) h)) ?_
        refine OpsT.rn ?_
        refine OpsT.nil ?_
        refine AWT.rt ?_
        rw [usersP, if_pos hv, ht]
        first | trivial | rfl
  · refine OpsT.cs (awGuard.c1 (c_graph_of_bad _ d hv h) ?_)
    refine OpsT.rn ?_
    refine OpsT.nil ?_
    refine AWT.seq ?_
    refine AWT.rSC ?_
    refine OpsT.cs (awGuard.lkN (keyOk_int .i64) Itm.zero zero_itm rfl ?_)
    refine OpsT.rn ?_
    refine OpsT.nil ?_
    refine AWT.rS ?_
    refine AWT.c2 ?_ ?_
    · intro _
      refine AWT.rS ?_
      refine AWT.rt ?_
      rw [usersP, if_neg hv]
      first | trivial | rfl
    · intro h31
      simp at h31
end Go.Proofs

namespace Aw
open Go
theorem chk_ref {o : Pob} {k : Int} (h : chk o k = 0) (h8 : o.kind = 8) : o.kids = [] := by
  have hu := (ownE_iff.1 (chk_iff.1 h).1).2.1
  have h2 : uKids o.kind = false := by rw [h8]; decide
  rcases hl : o.kids with _ | ⟨x, l⟩
  · rfl
  · exfalso
    simp [useB, h2, hl] at hu
    omega
mutual
theorem chk_rr : ∀ (o : Pob) (d : Int), chk o d = 0 → o.rr = o.pre.filter fun p => decide (p.kind = 8)
  | .mk k n g s ks l, d, h => by
    rw [Pob.pre_eq, rr_eq]
    by_cases h8 : (Pob.mk k n g s ks l).kind = 8
    · have hk := chk_ref h h8
      rw [if_pos h8, List.filter_cons, if_pos (by rw [h8]; decide), hk, pres_nil]
      rfl
    · rw [if_neg h8, List.filter_cons, if_neg (by simpa using h8)]
      exact chks_rr l (d + 1) (fun x hx => (chk_iff.1 h).2 x hx)
theorem chks_rr : ∀ (l : List Pob) (d : Int), (∀ x ∈ l, chk x d = 0) → rrs l = (pres l).filter fun p => decide (p.kind = 8)
  | [], _, _ => by simp [rrs, pres_nil]
  | o :: l, d, h => by
    rw [rrs, pres, List.filter_append, ← chk_rr o d (h o List.mem_cons_self), ← chks_rr l d (fun x hx => h x (List.mem_cons_of_mem _ hx))]
end
theorem leadR_yes {l : List Itm} (hl : incrN l) {r : Pob} (h : leadB l r = true) : leadR l r = some (leadI l r) := by
  obtain ⟨h1, h2, h3⟩ := lead_mem h
  cases e : leadR l r with
  | none =>
    unfold leadR at e
    rw [List.find?_eq_none] at e
    have := e _ h1
    simp [h2, h3] at this
  | some x =>
    obtain ⟨g1, g2, _⟩ := leadR_mem e
    rw [incr_one hl g1 h1 (by rw [g2, h2])]
theorem leadR_no {l : List Itm} (hl : incrN l) {r : Pob} (h : leadB l r = false) : leadR l r = none := by
  cases e : leadR l r with
  | none => rfl
  | some x =>
    exfalso
    obtain ⟨g1, g2, g3⟩ := leadR_mem e
    cases hm : mfind (netL l) r.num with
    | none =>
      rw [mfind_none] at hm
      refine hm ?_
      rw [← g2]
      simp only [netL, List.map_map, List.mem_map]
      exact ⟨x, g1, rfl⟩
    | some v =>
      have hv := mfind_mem hm
      simp only [netL, List.mem_map, Prod.mk.injEq] at hv
      obtain ⟨y, hy, e1, rfl⟩ := hv
      have : y = x := incr_one hl hy g1 (by rw [e1, g2])
      subst this
      simp [leadB, leadI, hm, g3] at h
theorem sortI_mem {s : List Int} {n : Int} : n ∈ sortI s ↔ n ∈ s := (List.mergeSort_perm s _).mem_iff
theorem sortI_lt {s : List Int} (h : s.Nodup) : (sortI s).Pairwise (· < ·) := by
  have h2 : (sortI s).Nodup := (List.mergeSort_perm _ _).nodup_iff.2 h
  exact (List.Pairwise.and (sortI_pairwise s) h2).imp fun ⟨a, b⟩ => by omega
theorem FromJ.perm {l : List Itm} {start : List Pob} {met : List Int} {a b : List Pob} (h : FromJ l start met a) (hp : a.Perm b) : FromJ l start met b :=
  ⟨h.nd, h.sub, fun r hr => (h.st r hr).imp id (fun g => hp.mem_iff.1 g), fun i hi hm r hr => (h.it i hi hm r hr).imp id (fun g => hp.mem_iff.1 g), fun s' hs => ⟨(h.least s' hs).1, fun r hr => (h.least s' hs).2 r (hp.mem_iff.2 hr)⟩, by rw [← hp.length_eq]; exact h.small⟩
theorem walk_fold (l : List Itm) : ∀ (L : List Pob) (s : List Int × List Pob), (walkR (reachStp l) s L).1 = (L.filter fun p => decide (p.kind = 8)).foldl (fun s r => (reachStp l s r).1) s
  | [], s => rfl
  | o :: L, s => by
    rw [walkR_cons, List.filter_cons]
    by_cases hk : o.kind = 8
    · rw [if_pos hk, if_neg (by rw [reach_last]; simp), if_pos (by simpa using hk), List.foldl_cons]
      exact walk_fold l L _
    · rw [if_neg hk, if_neg (by simpa using hk)]
      exact walk_fold l L s
theorem rrs_one (o : Pob) : rrs [o] = o.rr := by simp [rrs]
theorem fold_J {l : List Itm} {start : List Pob} (hl : incrN l) : ∀ (L : List Pob) (s : List Int × List Pob), FromJ l start s.1 (L ++ rrs s.2) →
    FromJ l start (L.foldl (fun s r => (reachStp l s r).1) s).1 (rrs (L.foldl (fun s r => (reachStp l s r).1) s).2)
  | [], s, h => h
  | r :: L, s, h => by
    rw [List.foldl_cons]
    refine fold_J hl L _ ?_
    simp only [reachStp]
    cases hb : reachB l s.1 r
    · simp only [Bool.false_eq_true, if_false]
      refine h.skip (fun i hi => ?_)
      simp only [reachB, Bool.and_eq_false_iff, Bool.not_eq_false', decide_eq_true_eq] at hb
      rcases hb with hb | hb
      · rw [leadR_no hl hb] at hi
        cases hi
      · cases hlb : leadB l r
        · rw [leadR_no hl hlb] at hi
          cases hi
        · rw [leadR_yes hl hlb] at hi
          injection hi with hi
          rw [← hi]
          exact hb
    · simp only [if_true]
      simp only [reachB, Bool.and_eq_true, Bool.not_eq_true', decide_eq_false_iff_not] at hb
      have := h.add hl (leadR_yes hl hb.1) hb.2
      rw [setAdd, if_neg hb.2, rrs_append, rrs_one, ← List.append_assoc]
      exact this
theorem pop_J {l : List Itm} {start : List Pob} (hl : incrN l) {s : List Int × List Pob} (h : FromJ l start s.1 (rrs s.2)) (hn : 0 < s.2.length) (hv : ∀ p ∈ s.2, ∃ k, chk p k = 0) :
    FromJ l start (popS l s).1 (rrs (popS l s).2) := by
  unfold popS
  rw [walk_fold]
  have hm : s.2.getD (s.2.length - 1) Pob.null ∈ s.2 := by
    rw [List.getD_eq_getElem?_getD, List.getElem?_eq_getElem (by omega)]
    exact List.getElem_mem _
  obtain ⟨k, hk⟩ := hv _ hm
  rw [← chk_rr _ k hk]
  refine fold_J hl _ _ ?_
  have e : rrs s.2 = rrs (s.2.take (s.2.length - 1)) ++ (s.2.getD (s.2.length - 1) Pob.null).rr := by
    rw [← rrs_take (l := s.2) (i := s.2.length - 1) (by omega), List.take_of_length_le (by omega)]
  rw [e] at h
  exact h.perm List.perm_append_comm
theorem fold_V {l : List Itm} (hv : ∀ i ∈ l, ∃ k, chk i.obj k = 0) : ∀ (L : List Pob) (s : List Int × List Pob), (∀ p ∈ s.2, ∃ k, chk p k = 0) → ∀ p ∈ (L.foldl (fun s r => (reachStp l s r).1) s).2, ∃ k, chk p k = 0
  | [], s, h => h
  | r :: L, s, h => by
    rw [List.foldl_cons]
    refine fold_V hv L _ ?_
    simp only [reachStp]
    split
    · rename_i hb
      simp only [reachB, Bool.and_eq_true] at hb
      intro p hp
      rcases List.mem_append.1 hp with hp | hp
      · exact h p hp
      · simp only [List.mem_singleton] at hp
        subst hp
        exact hv _ (lead_mem hb.1).1
    · exact h
theorem reachF_least {l : List Itm} {start : List Pob} (hl : incrN l) (hv : ∀ i ∈ l, ∃ k, chk i.obj k = 0) : ∀ (f : Nat) (s : List Int × List Pob), reachI l s → reachM l s ≤ f → FromJ l start s.1 (rrs s.2) → (∀ p ∈ s.2, ∃ k, chk p k = 0) → leastR l start (reachF l f s)
  | 0, s, hi, hf, h, _ => by
    have h0 : s.2 = [] := by
      simp only [reachM] at hf
      exact List.eq_nil_of_length_eq_zero (by omega)
    rw [h0] at h
    exact FromJ.end h
  | f + 1, s, hi, hf, h, hs => by
    simp only [reachF]
    by_cases hn : 0 < s.2.length
    · rw [if_pos hn]
      refine reachF_least hl hv f _ (popS_inv hi) (by have := popS_M hi hn; omega) (pop_J hl h hn hs) ?_
      unfold popS
      rw [walk_fold]
      exact fold_V hv _ _ (fun p hp => hs p (List.mem_of_mem_take hp))
    · rw [if_neg hn]
      have h0 : s.2 = [] := List.eq_nil_of_length_eq_zero (by omega)
      rw [h0] at h
      exact FromJ.end h
theorem items_chk {d : Dc} (h : docE d = 0) : ∀ i ∈ d.items, ∃ k, chk i.obj k = 0 := fun i hi => doc_chk h (i.num, i.obj) (List.mem_cons_of_mem _ (List.mem_map.2 ⟨i, hi, rfl⟩))
theorem reachS_least {d : Dc} {o : Pob} (h : docE d = 0) {k : Int} (hc : chk o k = 0) (hs : o.rr.length + ibulk d.items ≤ 33554432) : leastR d.items o.rr (reachS d.items o) := by
  unfold reachS
  refine reachF_least (items_incr (docE_items h)) (items_chk h) _ _ (reachI_top _ _) (by simp [reachM]) ?_ (fun p hp => ⟨k, by simp only [List.mem_singleton] at hp; rw [hp]; exact hc⟩)
  rw [rrs_one]
  exact FromJ.top _ _ hs
end Aw

namespace Aw
open Go
theorem rrs_mem {l : List Pob} {x : Pob} : x ∈ rrs l ↔ ∃ o ∈ l, x ∈ o.rr := by
  induction l with
  | nil => simp [rrs]
  | cons o l ih => simp [rrs, ih]
theorem usesR_eq {d : Dc} (h : docE d = 0) (num : Int) {o : Pob} {k : Int} (hk : chk o k = 0) : usesR d num o = o.pre.any fun p => decide (p.kind = 8) && usesB d.items num p := by
  have hl := items_incr (docE_items h)
  unfold usesR
  rw [chk_rr _ k hk, List.any_filter]
  congr 1
  funext p
  cases hb : leadB d.items p
  · rw [leadR_no hl hb]
    simp [usesB, hb]
  · rw [leadR_yes hl hb]
    simp [usesB, hb]
end Aw
namespace Aw
open Go
theorem sortI_len (s : List Int) : (sortI s).length = s.length := (List.mergeSort_perm s _).length_eq
theorem fromP_len (d : Dc) (o : Pob) : (fromP d o).length ≤ 8192 := by
  unfold fromP
  split
  · rename_i h
    rw [sortI_len]
    exact Nat.le_trans (reachS_len _ _) (items_len h.1)
  · simp
theorem lostP_len (d : Dc) : (lostP d).length ≤ 8192 := by
  unfold lostP
  split
  · rename_i h
    rw [sortI_len]
    unfold lostL
    refine Nat.le_trans (List.length_filter_le _ _) ?_
    rw [List.length_map]
    exact items_len h
  · simp
theorem usersP_len (d : Dc) (num : Int) : (usersP d num).length ≤ d.bulk := by
  unfold usersP
  split
  · split
    · rw [sortI_len]
      exact usersS_len d num
    · simp
  · simp
end Aw

namespace Aw
open Go
def gRef (n g : Int) : Pob := .mk 8 n g [] [] []
def gDict : Pob := .mk 7 0 0 [] [[65], [66]] [gRef 2 0, gRef 9 0]
def gArr : Pob := .mk 6 0 0 [] [] [gRef 2 0]
def gTrail : Pob := .mk 7 0 0 [] [[82, 111, 111, 116]] [gRef 1 0]
def threeD : Dc := ⟨[⟨1, 0, gDict⟩, ⟨2, 0, Pob.null⟩, ⟨3, 0, gArr⟩], gTrail⟩
theorem sortI_id {s t : List Int} (ht : t.Pairwise (· < ·)) (hp : s.Perm t) : sortI s = t := by
  have hn : s.Nodup := hp.nodup_iff.2 (ht.imp fun h => Int.ne_of_lt h)
  exact lt_ext (sortI_lt hn) ht (fun n => by rw [sortI_mem]; exact hp.mem_iff)
theorem lg0 : docE threeD = 0 := by decide +kernel
theorem lg1 : chk gTrail 1 = 0 := by decide +kernel
theorem lg2 : chk (gRef 3 0) 1 = 0 := by decide +kernel
theorem lg3 : chk (gRef 3 1) 1 = 0 := by decide +kernel
theorem lg4 : reachS threeD.items gTrail = [1, 2] := by decide +kernel
theorem lg5 : reachS threeD.items (gRef 3 0) = [3, 2] := by decide +kernel
theorem lg6 : reachS threeD.items (gRef 3 1) = [] := by decide +kernel
theorem lg7 : lostL threeD.items [1, 2] = [3] := by decide +kernel
theorem lg8 : dangS threeD = [9] := by decide +kernel
theorem lg9 : usersS threeD 2 = [1, 3] := by decide +kernel
theorem lg10 : usersS threeD 1 = [0] := by decide +kernel
theorem lg11 : thereB threeD 2 = true := by decide +kernel
theorem lg12 : thereB threeD 1 = true := by decide +kernel
theorem lg13 : thereB threeD 9 = false := by decide +kernel
theorem lg14 : ¬ docE Dc.zero = 0 := by decide +kernel
theorem lh1 : fromP threeD gTrail = [1, 2] := by rw [fromP, if_pos ⟨lg0, lg1⟩, lg4]; exact sortI_id (by decide) (.refl _)
theorem lh2 : fromP threeD (gRef 3 0) = [2, 3] := by rw [fromP, if_pos ⟨lg0, lg2⟩, lg5]; exact sortI_id (by decide) (by decide)
theorem lh3 : fromP threeD (gRef 3 1) = [] := by rw [fromP, if_pos ⟨lg0, lg3⟩, lg6]; exact sortI_id (by decide) (.refl _)
theorem lh4 : lostP threeD = [3] := by rw [lostP, if_pos lg0, show threeD.trailer = gTrail from rfl, lg4, lg7]; exact sortI_id (by decide) (.refl _)
theorem lh5 : danglingP threeD = [9] := by rw [danglingP, if_pos lg0, lg8]; exact sortI_id (by decide) (.refl _)
theorem lh6 : usersP threeD 2 = [1, 3] := by rw [usersP, if_pos lg0, if_pos lg11, lg9]; exact sortI_id (by decide) (.refl _)
theorem lh7 : usersP threeD 1 = [0] := by rw [usersP, if_pos lg0, if_pos lg12, lg10]; exact sortI_id (by decide) (.refl _)
theorem lh8 : usersP threeD 9 = [] := by rw [usersP, if_pos lg0, if_neg (by rw [lg13]; decide)]
theorem lh9 : fromP Dc.zero Dc.zero.trailer = [] := by rw [fromP, if_neg (fun h => lg14 h.1)]
end Aw

namespace Go.Proofs
open Go Aw
set_option linter.unusedSimpArgs false
set_option linter.unusedVariables false
set_option maxRecDepth 100000
set_option maxHeartbeats 4000000

attribute [local go_sem] List.getD_cons_zero List.length_cons List.length_nil
end Go.Proofs

namespace Go.Proofs
open Go Aw
set_option linter.unusedSimpArgs false
set_option linter.unusedVariables false
set_option maxRecDepth 100000
set_option maxHeartbeats 2000000
theorem takeInt_succ {a b : List Int} {i : Nat} (h : i < a.length) (hl : a.length = b.length) (he : a.take i = b.take i) (hg : a.getD i 0 = b.getD i 0) : a.take (i + 1) = b.take (i + 1) := by
  rw [List.take_add_one, List.take_add_one, he]
  rw [List.getD, List.getD] at hg
  rw [List.getElem?_eq_getElem h, List.getElem?_eq_getElem (show i < b.length by omega)] at hg ⊢
  simp only [Option.getD_some] at hg
  rw [hg]
theorem c_foliantref05_Ints (gl : List (Nat × AV)) (a b : List Int) (ha : a.length ≤ 16777216 := by first | omega | exact u8_le _ | assumption | (simp; done) | (simp; omega)) : FnP Try.prog (gl) 17 [.sl (intsAV a), .sl (intsAV b)] fun r => r = .ret (.bool (decide (a = b))) := by
  refine FnP.intro Try.func17 rfl rfl (by simp [Try.ntmps17]) ?_
  simp only [argEnv, Try.ntmps17, Try.results17]
  refine AW.rS ?_
  refine AW.seq ?_
  refine AW.rS ?_
  refine AW.c2 ?_ ?_
  · intro h4
    refine AW.rS ?_
    refine AW.rt ?_
    rw [decide_eq_false (fun e => h4 (by rw [e]))]
  · intro h4
    refine AW.skip ?_
    refine AW.seq ?_
    refine AW.rS ?_
    refine AW.block ?_
    refine AW.lk (S := { i : Nat // i ≤ a.length ∧ a.take i = b.take i }) [0, 1, 12] (fun s_ => [(13, .int .i64 s_.1)]) (fun s_ => []) 0 (fun s_ => a.length - s_.1) ⟨0, Nat.zero_le _, rfl⟩ ?_ ?_
    · refine St.le.vw []
    rintro ⟨i, hi, hs⟩
    try dsimp only at hi
    try dsimp only at hs
    refine AW.rS ?_
    refine AW.seq ?_
    refine AW.c2 ?_ ?_
    · intro h15
      refine AW.skip ?_
      refine AW.seq ?_
      refine AW.block ?_
      refine AW.rS ?_
      refine AW.dS [(0, 0), (1, 0), (2, 1), (3, 1), (4, 0), (5, 0), (6, 1), (7, 1), (8, 0)] ?_
      refine AW.c2 ?_ ?_
      · intro h21
        refine AW.rS ?_
        refine AW.rt ?_
        rw [decide_eq_false (fun e => h21 (by rw [e]))]
      · intro h21
        refine AW.skip ?_
        refine AW.rL ?_
        refine ⟨⟨i + 1, by omega, takeInt_succ h15 (by omega) hs h21⟩, ?_, ?_⟩
        · refine St.le.vw []
        · simp only []; omega
    · intro h15
      refine AW.exit ?_
      refine AW.rS ?_
      refine AW.rt ?_
      rw [List.take_of_length_le (by omega), List.take_of_length_le (by omega)] at hs
      simp [hs]
end Go.Proofs

namespace Go.Proofs
open Go Aw
set_option linter.unusedSimpArgs false
set_option linter.unusedVariables false
set_option maxRecDepth 100000
set_option maxHeartbeats 4000000
theorem c_foliantlaw29_Three (gl : List (Nat × AV))  : FnP Try.prog (gl) 20 [] fun r => r = .ret (.agg threeD.cells) := by
  refine FnP.intro Try.func20 rfl rfl (by simp [Try.ntmps20]) ?_
  simp only [argEnv, Try.ntmps20, Try.results20]
  refine AW.rS ?_
  refine AW.rS ?_
  refine AW.rt ?_
  all_goals first | contradiction | rfl | (simp; done) | (simp; omega)
theorem lk1 : threeD.bulk ≤ 16777216 := by decide +kernel
theorem lk2 : (gRef 3 0).bulk ≤ 16777216 := by decide +kernel
theorem lk3 : (gRef 3 1).bulk ≤ 16777216 := by decide +kernel
theorem lk4 : Dc.zero.bulk ≤ 16777216 := by decide +kernel
theorem lk5 : fromP threeD threeD.trailer = [1, 2] := lh1
theorem cg1 (gl : List (Nat × AV)) : FnP Try.prog gl 9 [.agg threeD.cells] fun r => r = .ret (.sl (intsAV [1, 2])) := by
  have h := c_graph_Reach gl threeD lk1
  rw [lk5] at h
  exact h
theorem cg2 (gl : List (Nat × AV)) : FnP Try.prog gl 10 [.agg threeD.cells] fun r => r = .ret (.sl (intsAV [3])) := by
  have h := c_graph_Lost gl threeD lk1
  rw [lh4] at h
  exact h
theorem cg3 (gl : List (Nat × AV)) : FnP Try.prog gl 16 [.agg threeD.cells] fun r => r = .ret (.sl (intsAV [9])) := by
  have h := c_graph_Dangling gl threeD lk1
  rw [lh5] at h
  exact h
theorem cg4 (gl : List (Nat × AV)) : FnP Try.prog gl 11 [.agg threeD.cells, .int .i64 2] fun r => r = .ret (.sl (intsAV [1, 3])) := by
  have h := c_graph_Users gl threeD 2 lk1
  rw [lh6] at h
  exact h
theorem cg5 (gl : List (Nat × AV)) : FnP Try.prog gl 11 [.agg threeD.cells, .int .i64 1] fun r => r = .ret (.sl (intsAV [0])) := by
  have h := c_graph_Users gl threeD 1 lk1
  rw [lh7] at h
  exact h
theorem cg6 (gl : List (Nat × AV)) : FnP Try.prog gl 11 [.agg threeD.cells, .int .i64 9] fun r => r = .ret (.sl (intsAV [])) := by
  have h := c_graph_Users gl threeD 9 lk1
  rw [lh8] at h
  exact h
theorem cg7 (gl : List (Nat × AV)) : FnP Try.prog gl 13 [.agg threeD.cells, .agg (gRef 3 0).cells] fun r => r = .ret (.sl (intsAV [2, 3])) := by
  have h := c_graph_From gl threeD (gRef 3 0) lk1 lk2
  rw [lh2] at h
  exact h
theorem cg8 (gl : List (Nat × AV)) : FnP Try.prog gl 13 [.agg threeD.cells, .agg (gRef 3 1).cells] fun r => r = .ret (.sl (intsAV [])) := by
  have h := c_graph_From gl threeD (gRef 3 1) lk1 lk3
  rw [lh3] at h
  exact h
theorem cg9 (gl : List (Nat × AV)) : FnP Try.prog gl 9 [.agg Dc.zero.cells] fun r => r = .ret (.sl (intsAV [])) := by
  have h := c_graph_Reach gl Dc.zero lk4
  rw [lh9] at h
  exact h
theorem c_law29_lives (gl : List (Nat × AV))  : FnP Try.prog (gl) 6 [] fun r => r = .ret (.bool true) := by
  refine FnP.intro Try.func6 rfl rfl (by simp [Try.ntmps6]) ?_
  simp only [argEnv, Try.ntmps6, Try.results6]
  refine AW.rS ?_
  refine AW.trim [] ?_
  refine AW.rSC ?_
  refine awOps.cons (awGuard.c1 (c_foliantlaw29_Three _) ?_)
  refine awOps.rn ?_
  refine AW.trim [1] ?_
  refine AW.rSC ?_
  refine awOps.cons (awGuard.c1 (cg1 _) ?_)
  refine awOps.rn ?_
  refine awOps.cons (awGuard.c1 (c_foliantref05_Ints _ [1, 2] [1, 2] (by decide)) ?_)
  refine awOps.rn ?_
  refine awOps.cons (awGuard.cG (fun hg => cg2 _) ?_)
  refine awOps.rn ?_
  refine awOps.cons (awGuard.gT ?_)
  refine awOps.cons (awGuard.cT (c_foliantref05_Ints _ [3] [3] (by decide)) ?_)
  refine awOps.rn ?_
  refine awOps.cons (awGuard.cG (fun hg => cg3 _) ?_)
  refine awOps.rn ?_
  refine awOps.cons (awGuard.gT ?_)
  refine awOps.cons (awGuard.cT (c_foliantref05_Ints _ [9] [9] (by decide)) ?_)
  refine awOps.rn ?_
  refine awOps.cons (awGuard.cG (fun hg => cg4 _) ?_)
  refine awOps.rn ?_
  refine awOps.cons (awGuard.gT ?_)
  refine awOps.cons (awGuard.cT (c_foliantref05_Ints _ [1, 3] [1, 3] (by decide)) ?_)
  refine awOps.rn ?_
  refine awOps.cons (awGuard.cG (fun hg => cg5 _) ?_)
  refine awOps.rn ?_
  refine awOps.cons (awGuard.gT ?_)
  refine awOps.cons (awGuard.cT (c_foliantref05_Ints _ [0] [0] (by decide)) ?_)
  refine awOps.rn ?_
  refine awOps.cons (awGuard.cG (fun hg => cg6 _) ?_)
  refine awOps.rn ?_
  refine awOps.cons (awGuard.gT ?_)
  refine awOps.rn ?_
  refine awOps.cons (awGuard.cG (fun hg => cg7 _) ?_)
  refine awOps.rn ?_
  refine awOps.cons (awGuard.gT ?_)
  refine awOps.cons (awGuard.cT (c_foliantref05_Ints _ [2, 3] [2, 3] (by decide)) ?_)
  refine awOps.rn ?_
  refine awOps.cons (awGuard.gT ?_)
  refine awOps.rn ?_
  refine awOps.cons (awGuard.cG (fun hg => cg8 _) ?_)
  refine awOps.rn ?_
  refine awOps.cons (awGuard.gT ?_)
  refine awOps.rn ?_
  refine awOps.cons (awGuard.cG (fun hg => cg9 _) ?_)
  refine awOps.rn ?_
  refine AW.trim [0] ?_
  refine AW.rt ?_
  all_goals first | contradiction | rfl | (simp; done) | (simp; omega)
end Go.Proofs

namespace Aw
open Go
theorem filt_len {α : Type} (p : α → Bool) : ∀ l : List α, l.length = (l.filter p).length + (l.filter fun x => !p x).length
  | [] => rfl
  | x :: l => by
    have := filt_len p l
    cases h : p x <;> simp [h] <;> omega
theorem chk_top {d : Dc} (h : docE d = 0) : chk d.trailer 1 = 0 := by
  have h1 := docE_trail h
  by_cases hc : chk d.trailer 1 = 0
  · exact hc
  · rw [trail_bad hc] at h1
    exact absurd h1 hc
theorem fromP_top {d : Dc} (h : docE d = 0) : fromP d d.trailer = sortI (reachS d.items d.trailer) := by rw [fromP, if_pos ⟨h, chk_top h⟩]
theorem from_mem {d : Dc} (h : docE d = 0) (n : Int) : n ∈ fromP d d.trailer ↔ n ∈ reachS d.items d.trailer := by rw [fromP_top h, sortI_mem]
theorem lost_mem {d : Dc} (h : docE d = 0) (n : Int) : n ∈ lostP d ↔ n ∈ d.items.map (·.num) ∧ ¬ n ∈ reachS d.items d.trailer := by
  rw [lostP, if_pos h, sortI_mem, lostL, List.mem_filter]
  simp
/-- every item is one or the other -/
theorem closes_len {d : Dc} (h : docE d = 0) : (fromP d d.trailer).length + (lostP d).length = d.items.length := by
  rw [fromP_top h, sortI_len, lostP, if_pos h, sortI_len]
  have hn := nums_nodup (items_incr (docE_items h))
  have hr := reachS_inv d.items d.trailer
  have h1 : ((d.items.map (·.num)).filter fun n => decide (n ∈ reachS d.items d.trailer)).length = (reachS d.items d.trailer).length := by
    refine Nat.le_antisymm (nodup_le (hn.filter _) (fun x hx => by simpa using (List.mem_filter.1 hx).2)) (nodup_le hr.1 (fun x hx => List.mem_filter.2 ⟨hr.2 x hx, by simpa using hx⟩))
  have h2 := filt_len (fun n => decide (n ∈ reachS d.items d.trailer)) (d.items.map (·.num))
  rw [h1, List.length_map] at h2
  unfold lostL
  exact h2.symm
theorem use_iff {d : Dc} (h : docE d = 0) {num : Int} {o : Pob} {k : Int} (hk : chk o k = 0) : (o.pre.any fun p => decide (p.kind = 8) && usesB d.items num p) = true ↔ ∃ r ∈ o.rr, ∃ i, leadR d.items r = some i ∧ i.num = num := by
  have hl := items_incr (docE_items h)
  rw [← usesR_eq h num hk, usesR, List.any_eq_true]
  constructor
  · rintro ⟨r, hr, hu⟩
    simp only [Bool.and_eq_true, decide_eq_true_eq] at hu
    obtain ⟨i, hi⟩ := Option.isSome_iff_exists.1 hu.1
    rw [hi] at hu
    exact ⟨r, hr, i, hi, hu.2⟩
  · rintro ⟨r, hr, i, hi, hn⟩
    exact ⟨r, hr, by simp [hi, hn]⟩
/-- reachable: the trailer or another reachable item refers to it -/
theorem closes_by {d : Dc} (h : docE d = 0) (hs : d.trailer.rr.length + ibulk d.items ≤ 33554432) {i : Itm} (hi : i ∈ d.items) :
    i.num ∈ fromP d d.trailer ↔ ∃ u ∈ usersP d i.num, u = 0 ∨ (u ≠ i.num ∧ u ∈ fromP d d.trailer) := by
  have hl := items_incr (docE_items h)
  obtain ⟨hc, hm⟩ := reachS_least (o := d.trailer) h (chk_top h) hs
  have ht : thereB d i.num = true := by
    unfold thereB
    cases hmf : mfind (netL d.items) i.num with
    | some v => rfl
    | none =>
      exfalso
      rw [mfind_none] at hmf
      refine hmf ?_
      simp only [netL, List.map_map, List.mem_map]
      exact ⟨i, hi, rfl⟩
  have hu : ∀ u, u ∈ usersP d i.num ↔ u ∈ usersS d i.num := fun u => by rw [usersP, if_pos h, if_pos ht, sortI_mem]
  simp only [hu, from_mem h]
  constructor
  · intro hr
    refine Classical.byContradiction fun hno => ?_
    have hcl : closedR d.items d.trailer.rr ((reachS d.items d.trailer).filter fun n => decide (n ≠ i.num)) := by
      refine ⟨fun r hr' j hj => ?_, fun j hj hjm r hr' x hx => ?_⟩
      · refine List.mem_filter.2 ⟨hc.1 r hr' j hj, ?_⟩
        simp only [decide_eq_true_eq]
        intro e
        exact hno ⟨0, (usersS_mem d i.num 0).2 ⟨(0, d.trailer), List.mem_cons_self, (use_iff h (chk_top h)).2 ⟨r, hr', j, hj, e⟩, rfl⟩, .inl rfl⟩
      · obtain ⟨hjr, hjn⟩ := List.mem_filter.1 hjm
        simp only [decide_eq_true_eq] at hjn
        refine List.mem_filter.2 ⟨hc.2 j hj hjr r hr' x hx, ?_⟩
        simp only [decide_eq_true_eq]
        intro e
        obtain ⟨k, hk⟩ := items_chk h j hj
        exact hno ⟨j.num, (usersS_mem d i.num j.num).2 ⟨(j.num, j.obj), List.mem_cons_of_mem _ (List.mem_map.2 ⟨j, hj, rfl⟩), (use_iff h hk).2 ⟨r, hr', x, hx, e⟩, rfl⟩, .inr ⟨hjn, hjr⟩⟩
    have := (List.mem_filter.1 (hm _ hcl i.num hr)).2
    simp at this
  · rintro ⟨u, hus, hor⟩
    obtain ⟨q, hq, ha, rfl⟩ := (usersS_mem d i.num u).1 hus
    rcases List.mem_cons.1 hq with rfl | hq
    · obtain ⟨r, hr, j, hj, e⟩ := (use_iff h (chk_top h)).1 ha
      rw [← e]
      exact hc.1 r hr j hj
    · obtain ⟨j, hj, rfl⟩ := List.mem_map.1 hq
      obtain ⟨k, hk⟩ := items_chk h j hj
      obtain ⟨r, hr, x, hx, e⟩ := (use_iff h hk).1 ha
      have hjr : j.num ∈ reachS d.items d.trailer := by
        rcases hor with h0 | h0
        · have := items_num h j hj
          simp only at h0
          omega
        · exact h0.2
      rw [← e]
      exact hc.2 j hj hjr r hr x hx
/-- what a reachable item leads to is reachable -/
theorem closes_from {d : Dc} (h : docE d = 0) (hs : d.trailer.rr.length + ibulk d.items ≤ 33554432) {i : Itm} (hi : i ∈ d.items) (hsi : i.obj.rr.length + ibulk d.items ≤ 33554432) (hr : i.num ∈ fromP d d.trailer) :
    ∀ n ∈ fromP d i.obj, n ∈ fromP d d.trailer := by
  intro n hn
  obtain ⟨hc, hm⟩ := reachS_least (o := d.trailer) h (chk_top h) hs
  rw [from_mem h] at hr ⊢
  unfold fromP at hn
  split at hn
  · rename_i hh
    rw [sortI_mem] at hn
    exact (reachS_least h hh.2 hsi).2 _ ⟨hc.2 i hi hr, hc.2⟩ n hn
  · cases hn
/-- an item is reachable or lost, not both -/
theorem closes_one {d : Dc} (h : docE d = 0) {i : Itm} (hi : i ∈ d.items) : i.num ∈ lostP d ↔ ¬ i.num ∈ fromP d d.trailer := by
  rw [lost_mem h, from_mem h]
  exact ⟨fun g => g.2, fun g => ⟨List.mem_map.2 ⟨i, hi, rfl⟩, g⟩⟩
theorem iidxI_num {l : List Itm} {n : Int} (h : 0 ≤ iidxI l n) : (l.getD (iidxI l n).toNat Itm.zero).num = n := by
  unfold iidxI at h ⊢
  split at h
  · rename_i hlt
    have h2 : decide (l[iidx l n].num = n) = true := List.findIdx_getElem (p := fun x : Itm => decide (x.num = n)) (w := hlt)
    rw [if_pos hlt]
    simp only [Int.toNat_natCast, List.getD, List.getElem?_eq_getElem hlt, Option.getD_some]
    exact of_decide_eq_true h2
  · omega
theorem closes_some {d : Dc} (h : docE d = 0) (hs : d.trailer.rr.length + ibulk d.items ≤ 33554432) : 0 < (fromP d d.trailer).length := by
  obtain ⟨_, h7, _, h8, hf⟩ := trail_parts (docE_trail h)
  obtain ⟨hc, _⟩ := reachS_least (o := d.trailer) h (chk_top h) hs
  generalize hr : getO d.trailer rootK = r at h8 hf
  have hrk : r ∈ d.trailer.kids := by
    unfold getO at hr
    split at hr
    · rename_i hb
      simp only [getB, Bool.and_eq_true, decide_eq_true_eq] at hb
      rw [← hr, List.getD_eq_getElem?_getD, List.getElem?_eq_getElem (by omega)]
      exact List.getElem_mem _
    · rw [← hr] at h8
      simp [Pob.null, Pob.kind] at h8
  have hrr : r ∈ d.trailer.rr := by
    rw [rr_eq, if_neg (by rw [h7]; decide)]
    refine rrs_mem.2 ⟨r, hrk, ?_⟩
    rw [rr_eq, if_pos h8]
    simp
  have hn0 : ¬ Pob.null.kind = 7 := by decide
  unfold followO at hf
  rw [if_neg (by simp [h8])] at hf
  split at hf
  · exact absurd hf hn0
  rename_i h1
  split at hf
  · exact absurd hf hn0
  rename_i h2
  have hlt := iidxI_lt (l := d.items) (n := r.num)
  have hi : (iidxI d.items r.num).toNat < d.items.length := by omega
  have hnum : (d.items.getD (iidxI d.items r.num).toNat Itm.zero).num = r.num := iidxI_num (by omega)
  have hmem : d.items.getD (iidxI d.items r.num).toNat Itm.zero ∈ d.items := by
    rw [List.getD_eq_getElem?_getD, List.getElem?_eq_getElem hi]
    exact List.getElem_mem _
  generalize d.items.getD (iidxI d.items r.num).toNat Itm.zero = i at h2 hnum hmem
  have hg : i.gen = r.gen := Classical.byContradiction fun g => h2 g
  cases hl : leadR d.items r with
  | none =>
    exfalso
    unfold leadR at hl
    rw [List.find?_eq_none] at hl
    have := hl i hmem
    simp [hnum, hg] at this
  | some j =>
    have := hc.1 r hrr j hl
    rw [fromP_top h, sortI_len]
    exact List.length_pos_of_mem this
end Aw

namespace Go.Proofs
open Go Aw
set_option linter.unusedSimpArgs false
set_option linter.unusedVariables false
set_option maxRecDepth 100000
set_option maxHeartbeats 4000000

theorem c_law29_in (gl : List (Nat × AV)) (l : List Int) (n : Int) (hl : l.length ≤ 16777216 := by first | omega | exact u8_le _ | assumption | (simp; done) | (simp; omega)) : FnP Try.prog (gl) 12 [.sl (intsAV l), .int .i64 n] fun r => r = .ret (.bool (decide (n ∈ l))) := by
  refine FnP.intro Try.func12 rfl rfl (by simp [Try.ntmps12]) ?_
  simp only [argEnv, Try.ntmps12, Try.results12]
  refine AW.rS ?_
  refine AW.seq ?_
  refine AW.rS ?_
  refine AW.block ?_
  refine AW.lk (S := { i : Nat // i ≤ l.length ∧ ∀ j, j < i → l.getD j 0 ≠ n }) [1, 7, 8] (fun s_ => [(9, .int .i64 s_.1)]) (fun s_ => []) 0 (fun s_ => l.length - s_.1) ⟨0, Nat.zero_le _, fun j h => absurd h (by omega)⟩ ?_ ?_
  · refine St.le.vw []
  rintro ⟨i, hi, hs⟩
  try dsimp only at hi
  try dsimp only at hs
  refine AW.rS ?_
  refine AW.seq ?_
  refine AW.c2 ?_ ?_
  · intro h8
    refine AW.skip ?_
    refine AW.seq ?_
    refine AW.block ?_
    refine AW.rS ?_
    refine AW.rS ?_
    refine AW.c2 ?_ ?_
    · intro h14
      refine AW.rS ?_
      refine AW.rt ?_
      rw [any_hit h8 h14]
    · intro h14
      refine AW.skip ?_
      refine AW.rL ?_
      refine ⟨⟨i + 1, by omega, fun j hj => (Nat.lt_or_ge j i).elim (hs j) (fun h => (show j = i by omega) ▸ h14)⟩, ?_, ?_⟩
      · refine St.le.vw []
      · simp only []; omega
  · intro h8
    refine AW.exit ?_
    refine AW.rS ?_
    refine AW.rt ?_
    rw [any_miss (fun j hj => hs j (by omega))]
/-- what the loop over the users finds -/
def byU (L : List Int) (num : Int) (us : List Int) : Bool := us.any fun u => decide (u = 0) || (!decide (u = num) && decide (u ∈ L))
theorem byU_take {L us : List Int} {num : Int} {j : Nat} (h : j < us.length) : byU L num (us.take (j + 1)) = (byU L num (us.take j) || (decide (us.getD j 0 = 0) || (!decide (us.getD j 0 = num) && decide (us.getD j 0 ∈ L)))) := any_take (d := 0) h
theorem getD_mem0 {l : List Int} {k : Nat} (h : k < l.length) : l.getD k 0 ∈ l := by
  rw [List.getD_eq_getElem?_getD, List.getElem?_eq_getElem h]
  exact List.getElem_mem _
theorem bif4 (a b c e : Bool) : (bif bif a then true else b then true else bif !c then e else false) = (a || (b || (!c && e))) := by cases a <;> cases b <;> cases c <;> cases e <;> rfl
theorem byU_iff {L us : List Int} {num : Int} : byU L num us = true ↔ ∃ u ∈ us, u = 0 ∨ (u ≠ num ∧ u ∈ L) := by simp [byU]
theorem c_law_GraphCloses (gl : List (Nat × AV)) (d : Dc) (hd : d.tot ≤ 1048576) : FnP Try.prog (gl) 3 [.agg d.cells] fun r => r = .ret (.bool true) := by
  refine FnP.intro Try.func3 rfl rfl (by simp [Try.ntmps3]) ?_
  simp only [argEnv, Try.ntmps3, Try.results3]
  have h1 := Dc.bulk_tot d
  have h2 := Dc.size_tot d
  have hb8 : d.bulk = ibulk d.items + d.trailer.bulk := rfl
  have hb9 := ibulk_len d.items
  have hr2 := rr_len d.trailer
  have hfl := fromP_len d d.trailer
  have hl1 := lostP_len d
  refine AW.rS ?_
  refine AW.trim [1] ?_
  refine AW.seq ?_
  refine AW.rSC ?_
  refine awOps.cons (awGuard.c1 (c_law29_lives _) ?_)
  refine awOps.rn ?_
  refine AW.trim [1, 13] ?_
  refine AW.c2 ?_ ?_
  · intro h6
    refine AW.rS ?_
    refine AW.trim [2] ?_
    refine AW.rt ?_
    all_goals first | contradiction | rfl | (simp; done) | (simp; omega)
  · intro h6
    refine AW.skip ?_
    refine AW.seq ?_
    refine AW.rSC ?_
    refine awOps.cons (awGuard.c1 (c_foliantref19_Size _ d (by omega) (by omega)) ?_)
    refine awOps.rn ?_
    refine awOps.cons (awGuard.cG (fun hg => c_docs_Check _ d (by omega)) ?_)
    refine awOps.rn ?_
    refine AW.trim [1, 21] ?_
    refine AW.c2 ?_ ?_
    · intro h17
      refine AW.rS ?_
      refine AW.trim [2] ?_
      refine AW.rt ?_
      all_goals first | contradiction | rfl | (simp; done) | (simp; omega)
    · intro h17
      have hd0 : docE d = 0 := h17.2
      have hlen := closes_len hd0
      have hsome := closes_some hd0 (by omega)
      refine AW.skip ?_
      refine AW.fS [0, 2, 1, 3, 4, 5] [] ?_
      refine awFun.rn ?_
      refine awFun.c1 [22] (c_graph_Reach _ d (by omega)) ?_
      refine awFun.rn ?_
      refine awFun.c1 [24] (c_graph_Lost _ d (by omega)) ?_
      refine awFun.rn ?_
      rw [Aw.awFun_nil, Aw.awPlan_nil]
      refine AW.trim [1, 3, 4] ?_
      refine AW.seq ?_
      refine AW.rS ?_
      refine AW.trim [1, 3, 4, 39] ?_
      refine AW.c2 ?_ ?_
      · intro h31
        exfalso
        omega
      · intro h31
        refine AW.skip ?_
        refine AW.seq ?_
        refine AW.rS ?_
        refine AW.trim [1, 3, 4, 41, 42, 43] ?_
        refine AW.block ?_
        refine AW.lk (S := { i : Nat // i ≤ d.items.length }) [1, 3, 4, 41, 42] (fun s_ => [(43, .int .i64 s_.1)]) (fun s_ => [(0, .cells d.cells)]) 1 (fun s_ => d.items.length - s_.1) ⟨0, Nat.zero_le _⟩ ?_ ?_
        · refine St.le.vw [0]
        rintro ⟨i, hi⟩
        try dsimp only at hi
        refine AW.rS ?_
        refine AW.trim [1, 3, 4, 41, 42, 43, 44] ?_
        refine AW.seq ?_
        refine AW.c2 ?_ ?_
        · intro h42
          have him : d.items.getD i Itm.zero ∈ d.items := by
            rw [List.getD_eq_getElem?_getD, List.getElem?_eq_getElem h42]
            exact List.getElem_mem _
          have hib := ibulk_get (l := d.items) (i := i) h42
          have hir := rr_len (d.items.getD i Itm.zero).obj
          have hul := usersP_len d (d.items.getD i Itm.zero).num
          have hby := closes_by hd0 (by omega) him
          have hone := closes_one hd0 him
          have hfr := closes_from hd0 (by omega) him (by omega)
          have hfo := fromP_len d (d.items.getD i Itm.zero).obj
          refine AW.skip ?_
          refine AW.seq ?_
          refine AW.block ?_
          refine AW.rS ?_
          refine AW.trim [1, 3, 4, 6, 41, 42, 43] ?_
          refine AW.rS ?_
          refine AW.trim [1, 3, 4, 6, 7, 41, 42, 43] ?_
          refine AW.seq ?_
          refine AW.rSC ?_
          refine awOps.cons (awGuard.c1 (c_graph_Users _ d (d.items.getD i Itm.zero).num (by omega)) ?_)
          refine awOps.rn ?_
          refine AW.trim [1, 3, 4, 6, 7, 41, 42, 43, 50, 51, 52] ?_
          refine AW.block ?_
          refine AW.lk (S := { j : Nat // j ≤ (usersP d (d.items.getD i Itm.zero).num).length }) [1, 3, 4, 6, 41, 42, 43, 50, 51] (fun s_ => [(7, .bool (byU (fromP d d.trailer) (d.items.getD i Itm.zero).num ((usersP d (d.items.getD i Itm.zero).num).take s_.1))), (52, .int .i64 s_.1)]) (fun s_ => [(0, .cells d.cells), (1, .cells (d.items.getD i Itm.zero).cells)]) 2 (fun s_ => (usersP d (d.items.getD i Itm.zero).num).length - s_.1) ⟨0, Nat.zero_le _⟩ ?_ ?_
          · refine St.le.vw [0, 1]
          rintro ⟨j, hj⟩
          try dsimp only at hj
          refine AW.rS ?_
          refine AW.trim [1, 3, 4, 6, 7, 41, 42, 43, 50, 51, 52, 53] ?_
          refine AW.seq ?_
          refine AW.c2 ?_ ?_
          · intro h56
            have hbt := (bif4 (byU (fromP d d.trailer) (d.items.getD i Itm.zero).num ((usersP d (d.items.getD i Itm.zero).num).take j)) (decide ((usersP d (d.items.getD i Itm.zero).num).getD j 0 = 0)) (decide ((usersP d (d.items.getD i Itm.zero).num).getD j 0 = (d.items.getD i Itm.zero).num)) (decide ((usersP d (d.items.getD i Itm.zero).num).getD j 0 ∈ (fromP d d.trailer)))).trans (byU_take h56).symm
            refine AW.skip ?_
            refine AW.seq ?_
            refine AW.block ?_
            refine AW.rS ?_
            refine AW.trim [1, 3, 4, 6, 7, 9, 41, 42, 43, 50, 51, 52] ?_
            refine AW.rLC ?_
            refine awOps.cons (awGuard.cG (fun hg => c_law29_in _ (fromP d d.trailer) ((usersP d (d.items.getD i Itm.zero).num).getD j 0) (by omega)) ?_)
            refine awOps.rn ?_
            refine AW.rL ?_
            rw [hbt]
            refine ⟨⟨j + 1, by omega⟩, ?_, ?_⟩
            · refine St.le.vw [0, 1]
            · simp only []; omega
          · intro h56
            refine AW.exit ?_
            obtain rfl : j = (usersP d (d.items.getD i Itm.zero).num).length := by omega
            have hB : byU (fromP d d.trailer) (d.items.getD i Itm.zero).num ((usersP d (d.items.getD i Itm.zero).num).take (usersP d (d.items.getD i Itm.zero).num).length) = decide ((d.items.getD i Itm.zero).num ∈ (fromP d d.trailer)) := by
              rw [List.take_length, Bool.eq_iff_iff, byU_iff, ← hby, decide_eq_true_iff]
            have hA : decide ((d.items.getD i Itm.zero).num ∈ lostP d) = !decide ((d.items.getD i Itm.zero).num ∈ (fromP d d.trailer)) := by
              rw [Bool.eq_iff_iff, decide_eq_true_iff, hone]
              simp
            rw [hB]
            refine AW.seq ?_
            refine AW.fS [0, 1, 2, 4, 5, 6, 3, 7, 8, 9, 10, 11, 12, 14, 13, 15, 16] [] ?_
            refine awFun.rn ?_
            refine awFun.c1 [73, 75] (c_law29_in _ (fromP d d.trailer) (d.items.getD i Itm.zero).num (by omega)) ?_
            refine awFun.rn ?_
            refine awFun.c1 [77, 79] (c_law29_in _ (lostP d) (d.items.getD i Itm.zero).num (by omega)) ?_
            refine awFun.rn ?_
            refine awFun.cG [82, 83, 85] (fun hg => c_law29_in _ (fromP d d.trailer) (d.items.getD i Itm.zero).num (by omega)) ?_
            refine awFun.rn ?_
            rw [Aw.awFun_nil, Aw.awPlan_nil]
            refine AW.trim [1, 3, 4, 6, 41, 42, 43, 89] ?_
            refine AW.c2 ?_ ?_
            · intro h77
              exfalso
              have h := h77.1
              rw [hA] at h
              cases hx : decide ((d.items.getD i Itm.zero).num ∈ fromP d d.trailer) <;> rw [hx] at h <;> cases h
            · intro h77
              refine AW.skip ?_
              refine AW.rSC ?_
              refine awOps.cons (awGuard.c1 (c_graph_From _ d (d.items.getD i Itm.zero).obj (by omega) (by omega)) ?_)
              refine awOps.rn ?_
              refine AW.trim [1, 3, 4, 6, 41, 42, 43, 93, 94, 95] ?_
              refine AW.block ?_
              refine AW.lk (S := { j : Nat // j ≤ (fromP d (d.items.getD i Itm.zero).obj).length }) [1, 3, 4, 6, 41, 42, 43, 93, 94] (fun s_ => [(95, .int .i64 s_.1)]) (fun s_ => [(0, .cells d.cells), (1, .cells (d.items.getD i Itm.zero).cells)]) 2 (fun s_ => (fromP d (d.items.getD i Itm.zero).obj).length - s_.1) ⟨0, Nat.zero_le _⟩ ?_ ?_
              · refine St.le.vw [0, 1]
              rintro ⟨k, hk⟩
              try dsimp only at hk
              refine AW.rS ?_
              refine AW.trim [1, 3, 4, 6, 41, 42, 43, 93, 94, 95, 96] ?_
              refine AW.seq ?_
              refine AW.c2 ?_ ?_
              · intro h89
                refine AW.skip ?_
                refine AW.seq ?_
                refine AW.block ?_
                refine AW.rS ?_
                refine AW.trim [1, 3, 4, 6, 11, 41, 42, 43, 93, 94, 95] ?_
                refine AW.rSC ?_
                refine awOps.cons (awGuard.c1 (c_law29_in _ (fromP d d.trailer) (d.items.getD i Itm.zero).num (by omega)) ?_)
                refine awOps.rn ?_
                refine awOps.cons (awGuard.cG (fun hg => c_law29_in _ (fromP d d.trailer) ((fromP d (d.items.getD i Itm.zero).obj).getD k 0) (by omega)) ?_)
                refine awOps.rn ?_
                refine AW.trim [1, 3, 4, 6, 41, 42, 43, 93, 94, 95, 108] ?_
                refine AW.c2 ?_ ?_
                · intro h99
                  exfalso
                  exact h99.2 (hfr h99.1 _ (getD_mem0 h89))
                · intro h99
                  refine AW.skip ?_
                  refine AW.rL ?_
                  refine ⟨⟨k + 1, by omega⟩, ?_, ?_⟩
                  · refine St.le.vw [0, 1]
                  · simp only []; omega
              · intro h89
                refine AW.exit ?_
                refine AW.rL ?_
                refine ⟨⟨i + 1, by omega⟩, ?_, ?_⟩
                · refine St.le.vw [0]
                · simp only []; omega
        · intro h42
          refine AW.exit ?_
          refine AW.rS ?_
          refine AW.trim [2] ?_
          refine AW.rt ?_
          all_goals first | contradiction | rfl | (simp; done) | (simp; omega)
end Go.Proofs
